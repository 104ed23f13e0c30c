/- The code of roundhouselaw11.WorldEnds, roundhouselaw11.WorldBytes and of all that they reach, as the abstract machine takes it: printed by a program. -/
import Derived.Test.YtpbepbijgldagaaMatch
set_option maxRecDepth 100000
namespace Am.Sigs
open Am Go
def c4_0 : AC :=
  .seq (.region 0 [.mk4 0 (some 137) (.mv (.t 7)) none,
    .mk4 1 (some 138) (.mv (.t 137)) none,
    .mk4 2 (some 139) (.mv (.t 18)) (some (138, true)),
    .mk4 3 (some 140) (.mv (.t 1)) (some (138, true)),
    .mk4 4 (some 141) (.mv (.t 13)) (some (138, true)),
    .mk4 5 (some 142) (.slice 1 (.t 140) none (some (.t 141)) none) (some (138, true)),
    .mk4 6 (some 143) (.ofBytes (.t 142)) (some (138, true)),
    .mk4 7 (some 144) (.bin .eql (.t 139) (.t 143)) (some (138, true)),
    .mk4 8 (some 145) (.pick (.t 138) (.t 144) (.c (.bool false))) none,
    .mk4 9 (some 146) (.mv (.t 145)) none,
    .mk4 10 (some 147) (.mv (.t 24)) (some (146, true)),
    .mk4 11 (some 148) (.pick (.t 146) (.t 147) (.c (.bool false))) none,
    .mk4 12 (some 149) (.mv (.t 148)) none,
    .mk4 13 (some 150) (.mv (.t 25)) (some (149, true)),
    .mk4 14 (some 151) (.bin .eql (.t 150) (.c (.i 0))) (some (149, true)),
    .mk4 15 (some 152) (.pick (.t 149) (.t 151) (.c (.bool false))) none,
    .mk4 16 (some 153) (.mv (.t 152)) none,
    .mk4 17 (some 154) (.faddr 1 (.t 26)) (some (153, true)),
    .mk4 18 (some 155) (.load1 (.t 154)) (some (153, true)),
    .mk4 19 (some 156) (.pick (.t 153) (.t 155) (.c (.bool false))) none,
    .mk4 20 (some 157) (.mv (.t 156)) none,
    .mk4 21 (some 158) (.faddr 3 (.t 26)) (some (157, true)),
    .mk4 22 (some 159) (.load1 (.t 158)) (some (157, true)),
    .mk4 23 (some 160) (.un .not (.t 159)) (some (157, true)),
    .mk4 24 (some 161) (.pick (.t 157) (.t 160) (.c (.bool false))) none,
    .mk4 25 (some 162) (.mv (.t 161)) none,
    .mk4 26 (some 163) (.mv (.t 27)) (some (162, true)),
    .mk4 27 (some 164) (.bin .eql (.t 163) (.c (.i 1))) (some (162, true)),
    .mk4 28 (some 165) (.pick (.t 162) (.t 164) (.c (.bool false))) none,
    .mk4 29 (some 166) (.mv (.t 165)) none,
    .mk4 30 (some 167) (.mv (.t 28)) (some (166, true)),
    .mk4 31 (some 168) (.bin .eql (.t 167) (.c (.i 0))) (some (166, true)),
    .mk4 32 (some 169) (.pick (.t 166) (.t 168) (.c (.bool false))) none,
    .mk4 33 (some 6) (.mv (.t 169)) none] [6]) (.ret)
def c4_1 : AC :=
  .seq (.region 0 [.mk4 0 (some 130) (.mv (.t 8)) none,
    .mk4 1 (some 131) (.mv (.t 10)) none,
    .mk4 2 (some 132) (.bslice 1 1 [.int .u8 0] [(0, (.c (.int .u8 97)))]) none,
    .mk4 3 (some 133) (.mark (.t 132)) none,
    .mk4 4 (some 134) (.call 23 [(.t 130), (.t 131), (.t 133)]) none,
    .mk4 5 (some 129) (.mv (.t 134)) none,
    .mk4 6 (some 135) (.extract (.t 129) 0) none,
    .mk4 7 (some 136) (.extract (.t 129) 1) none,
    .mk4 8 (some 27) (.mv (.t 135)) none,
    .mk4 9 (some 28) (.mv (.t 136)) none] [1, 7, 13, 18, 24, 25, 26, 27, 28]) (c4_0)
def c4_2 : AC :=
  .seq (.region 0 [.mk4 0 (some 126) (.mv (.t 8)) none,
    .mk4 1 (some 127) (.mv (.t 10)) none,
    .mk4 2 (some 128) (.call 22 [(.t 126), (.t 127)]) none,
    .mk4 3 (some 26) (.alloc 7 [.bool false, .bool false, .bool false, .bool false, .bool false, .int .u64 0, .int .u64 0]) none,
    .mk4 4 none (.store 7 (.t 26) (.t 128)) none] [1, 7, 8, 10, 13, 18, 24, 25, 26]) (c4_1)
def c4_3 : AC :=
  .seq (.seq (.region 0 [.mk4 0 (some 106) (.mv (.t 22)) none,
    .mk4 1 (some 107) (.bin .neq (.t 106) (.c (.i 0))) none,
    .mk4 2 (some 108) (.mv (.t 107)) none,
    .mk4 3 (some 109) (.mv (.t 21)) (some (108, false)),
    .mk4 4 (some 110) (.mv (.t 20)) (some (108, false)),
    .mk4 5 (some 111) (.lenL (.t 110)) (some (108, false)),
    .mk4 6 (some 112) (.bin .eql (.t 111) (.c (.i 0))) (some (108, false)),
    .mk4 7 (some 113) (.eq .bool true (.t 109) (.t 112)) (some (108, false)),
    .mk4 8 (some 114) (.pick (.t 108) (.c (.bool true)) (.t 113)) none] [1, 2, 7, 8, 10, 13, 18, 19, 20, 114]) (.cond (.t 114) (.seq (.region 0 [.mk4 0 (some 6) (.mv (.c (.bool false))) none] [6]) (.ret)) (.skip))) (.region 0 [.mk4 0 (some 115) (.mv (.t 18)) none,
    .mk4 1 (some 116) (.mv (.t 20)) none,
    .mk4 2 (some 117) (.ofBytes (.t 116)) none,
    .mk4 3 (some 118) (.bin .add (.t 115) (.t 117)) none,
    .mk4 4 (some 18) (.mv (.t 118)) none] [1, 2, 7, 8, 10, 13, 18, 19])
def c4_4 : AC :=
  .seq (.region 0 [.mk4 0 (some 96) (.mv (.t 8)) none,
    .mk4 1 (some 97) (.mv (.t 10)) none,
    .mk4 2 (some 98) (.mv (.t 2)) none,
    .mk4 3 (some 99) (.convInt .i64 (.t 98)) none,
    .mk4 4 (some 100) (.bin .rem (.t 99) (.c (.i 20))) none,
    .mk4 5 (some 101) (.bin .add (.c (.i 1)) (.t 100)) none,
    .mk4 6 (some 102) (.call 21 [(.t 96), (.t 97), (.t 101)]) none,
    .mk4 7 (some 95) (.mv (.t 102)) none,
    .mk4 8 (some 103) (.extract (.t 95) 0) none,
    .mk4 9 (some 104) (.extract (.t 95) 1) none,
    .mk4 10 (some 105) (.extract (.t 95) 2) none,
    .mk4 11 (some 20) (.mv (.t 103)) none,
    .mk4 12 (some 21) (.mv (.t 104)) none,
    .mk4 13 (some 22) (.mv (.t 105)) none] [1, 2, 7, 8, 10, 13, 18, 19, 20, 21, 22]) (c4_3)
def c4_5 : AC :=
  .seq (.seq (.region 0 [.mk4 0 (some 89) (.mv (.t 19)) none,
    .mk4 1 (some 90) (.mv (.t 1)) none,
    .mk4 2 (some 91) (.lenL (.t 90)) none,
    .mk4 3 (some 92) (.bin .leq (.t 89) (.t 91)) none] [1, 2, 7, 8, 10, 13, 18, 19, 92]) (.cond (.t 92) (.skip) (.exit 0))) (.seq (.block 1 (c4_4)) (.region 0 [.mk4 0 (some 93) (.mv (.t 19)) none,
    .mk4 1 (some 94) (.bin .add (.t 93) (.c (.i 1))) none,
    .mk4 2 (some 19) (.mv (.t 94)) none] [1, 2, 7, 8, 10, 13, 18, 19]))
def c4_6 : AC :=
  .seq (.region 0 [.mk4 0 (some 120) (.mv (.t 8)) none,
    .mk4 1 (some 121) (.mv (.t 10)) none,
    .mk4 2 (some 122) (.call 21 [(.t 120), (.t 121), (.c (.i 1))]) none,
    .mk4 3 (some 119) (.mv (.t 122)) none,
    .mk4 4 (some 123) (.extract (.t 119) 0) none,
    .mk4 5 (some 124) (.extract (.t 119) 1) none,
    .mk4 6 (some 125) (.extract (.t 119) 2) none,
    .mk4 7 (some 23) (.mv (.t 123)) none,
    .mk4 8 (some 24) (.mv (.t 124)) none,
    .mk4 9 (some 25) (.mv (.t 125)) none] [1, 7, 8, 10, 13, 18, 24, 25]) (c4_2)
def c4_7 : AC :=
  .seq (.seq (.region 0 [.mk4 0 (some 67) (.mv (.t 12)) none,
    .mk4 1 (some 68) (.bin .neq (.t 67) (.c (.i 0))) none,
    .mk4 2 (some 69) (.mv (.t 68)) none,
    .mk4 3 (some 70) (.mv (.t 14)) (some (69, false)),
    .mk4 4 (some 71) (.bin .neq (.t 70) (.c (.i 0))) (some (69, false)),
    .mk4 5 (some 72) (.pick (.t 69) (.c (.bool true)) (.t 71)) none,
    .mk4 6 (some 73) (.mv (.t 72)) none,
    .mk4 7 (some 74) (.mv (.t 15)) (some (73, false)),
    .mk4 8 (some 75) (.bin .neq (.t 74) (.c (.i 0))) (some (73, false)),
    .mk4 9 (some 76) (.pick (.t 73) (.c (.bool true)) (.t 75)) none,
    .mk4 10 (some 77) (.mv (.t 76)) none,
    .mk4 11 (some 78) (.mv (.t 17)) (some (77, false)),
    .mk4 12 (some 79) (.bin .neq (.t 78) (.c (.i 114))) (some (77, false)),
    .mk4 13 (some 80) (.pick (.t 77) (.c (.bool true)) (.t 79)) none,
    .mk4 14 (some 81) (.mv (.t 80)) none,
    .mk4 15 (some 82) (.mv (.t 13)) (some (81, false)),
    .mk4 16 (some 83) (.mv (.t 1)) (some (81, false)),
    .mk4 17 (some 84) (.lenL (.t 83)) (some (81, false)),
    .mk4 18 (some 85) (.mv (.t 9)) (some (81, false)),
    .mk4 19 (some 86) (.minI [(.t 84), (.t 85)]) (some (81, false)),
    .mk4 20 (some 87) (.bin .neq (.t 82) (.t 86)) (some (81, false)),
    .mk4 21 (some 88) (.pick (.t 81) (.c (.bool true)) (.t 87)) none] [1, 2, 7, 8, 10, 13, 88]) (.cond (.t 88) (.seq (.region 0 [.mk4 0 (some 6) (.mv (.c (.bool false))) none] [6]) (.ret)) (.skip))) (.seq (.region 0 [.mk4 0 (some 18) (.mv (.c (.str []))) none] [1, 2, 7, 8, 10, 13, 18]) (.seq (.seq (.region 0 [.mk4 0 (some 19) (.mv (.c (.i 0))) none] [1, 2, 7, 8, 10, 13, 18, 19]) (.block 0 (.loop [1, 2, 7, 8, 10, 13, 18, 19] (c4_5)))) (c4_6)))
def c4_8 : AC :=
  .seq (.region 0 [.mk4 0 (some 61) (.mv (.t 8)) none,
    .mk4 1 (some 62) (.mv (.t 11)) none,
    .mk4 2 (some 63) (.bslice 1 1 [.int .u8 0] [(0, (.c (.int .u8 1)))]) none,
    .mk4 3 (some 64) (.call 19 [(.t 61), (.t 62), (.t 63)]) none,
    .mk4 4 (some 60) (.mv (.t 64)) none,
    .mk4 5 (some 65) (.extract (.t 60) 0) none,
    .mk4 6 (some 66) (.extract (.t 60) 1) none,
    .mk4 7 (some 16) (.mv (.t 65)) none,
    .mk4 8 (some 17) (.mv (.t 66)) none] [1, 2, 7, 8, 9, 10, 12, 13, 14, 15, 17]) (c4_7)
def c4_9 : AC :=
  .seq (.region 0 [.mk4 0 (some 51) (.mv (.t 8)) none,
    .mk4 1 (some 52) (.mv (.t 11)) none,
    .mk4 2 (some 53) (.mv (.t 1)) none,
    .mk4 3 (some 54) (.call 19 [(.t 51), (.t 52), (.t 53)]) none,
    .mk4 4 (some 50) (.mv (.t 54)) none,
    .mk4 5 (some 55) (.extract (.t 50) 0) none,
    .mk4 6 (some 56) (.extract (.t 50) 1) none,
    .mk4 7 (some 13) (.mv (.t 55)) none,
    .mk4 8 (some 14) (.mv (.t 56)) none] [1, 2, 7, 8, 9, 10, 11, 12, 13, 14]) (.seq (.region 0 [.mk4 0 (some 57) (.mv (.t 8)) none,
    .mk4 1 (some 58) (.mv (.t 11)) none,
    .mk4 2 (some 59) (.call 20 [(.t 57), (.t 58)]) none,
    .mk4 3 (some 15) (.mv (.t 59)) none] [1, 2, 7, 8, 9, 10, 11, 12, 13, 14, 15]) (c4_8))
def c4_10 : AC :=
  .seq (.region 0 [.mk4 0 (some 44) (.mv (.t 8)) none,
    .mk4 1 (some 45) (.mv (.t 9)) none,
    .mk4 2 (some 46) (.call 18 [(.t 44), (.t 45)]) none,
    .mk4 3 (some 43) (.mv (.t 46)) none,
    .mk4 4 (some 47) (.extract (.t 43) 0) none,
    .mk4 5 (some 48) (.extract (.t 43) 1) none,
    .mk4 6 (some 49) (.extract (.t 43) 2) none,
    .mk4 7 (some 10) (.mv (.t 47)) none,
    .mk4 8 (some 11) (.mv (.t 48)) none,
    .mk4 9 (some 12) (.mv (.t 49)) none] [1, 2, 7, 8, 9, 10, 11, 12]) (c4_9)
def c4_11 : AC :=
  .seq (.region 0 [.mk4 0 (some 38) (.call 17 []) none,
    .mk4 1 (some 8) (.mv (.t 38)) none] [0, 1, 2, 7, 8]) (.seq (.region 0 [.mk4 0 (some 39) (.mv (.t 0)) none,
    .mk4 1 (some 40) (.convInt .i64 (.t 39)) none,
    .mk4 2 (some 41) (.bin .rem (.t 40) (.c (.i 60))) none,
    .mk4 3 (some 42) (.bin .add (.c (.i 1)) (.t 41)) none,
    .mk4 4 (some 9) (.mv (.t 42)) none] [1, 2, 7, 8, 9]) (c4_10))
def c4_12 : AC :=
  .seq (.seq (.region 0 [.mk4 0 (some 30) (.mv (.t 1)) none,
    .mk4 1 (some 31) (.lenL (.t 30)) none,
    .mk4 2 (some 32) (.bin .gtr (.t 31) (.c (.i 300))) none,
    .mk4 3 (some 33) (.mv (.t 32)) none,
    .mk4 4 (some 34) (.mv (.t 7)) (some (33, false)),
    .mk4 5 (some 35) (.un .not (.t 34)) (some (33, false)),
    .mk4 6 (some 36) (.pick (.t 33) (.c (.bool true)) (.t 35)) none] [0, 1, 2, 7, 36]) (.cond (.t 36) (.seq (.region 0 [.mk4 0 (some 37) (.mv (.t 7)) none,
    .mk4 1 (some 6) (.mv (.t 37)) none] [6]) (.ret)) (.skip))) (c4_11)
def c4 : AFn := ⟨3, 170, [.tmp 6],
  (.seq (.region 0 [.mk4 0 (some 6) (.mv (.c (.bool false))) none] [0, 1, 2]) (.seq (.region 0 [.mk4 0 (some 29) (.call 16 []) none,
    .mk4 1 (some 7) (.mv (.t 29)) none] [0, 1, 2, 7]) (c4_12)))⟩
def c5_0 : AC :=
  .seq (.region 0 [.mk4 0 (some 225) (.mv (.t 33)) none,
    .mk4 1 (some 226) (.ixaA 4 1 (.t 14) (.t 225)) none,
    .mk4 2 (some 227) (.load1 (.t 226)) none,
    .mk4 3 (some 228) (.lenS (.t 227)) none,
    .mk4 4 (some 229) (.mv (.t 33)) none,
    .mk4 5 (some 230) (.ixaA 4 1 (.t 13) (.t 229)) none,
    .mk4 6 (some 231) (.load1 (.t 230)) none,
    .mk4 7 (some 232) (.lenS (.t 231)) none,
    .mk4 8 (some 233) (.bin .gtr (.t 228) (.t 232)) none,
    .mk4 9 (some 234) (.mv (.t 233)) none,
    .mk4 10 (some 235) (.mv (.t 33)) (some (234, false)),
    .mk4 11 (some 236) (.ixaA 4 1 (.t 13) (.t 235)) (some (234, false)),
    .mk4 12 (some 237) (.load1 (.t 236)) (some (234, false)),
    .mk4 13 (some 238) (.mv (.t 33)) (some (234, false)),
    .mk4 14 (some 239) (.ixaA 4 1 (.t 14) (.t 238)) (some (234, false)),
    .mk4 15 (some 240) (.load1 (.t 239)) (some (234, false)),
    .mk4 16 (some 241) (.lenS (.t 240)) (some (234, false)),
    .mk4 17 (some 242) (.sliceS (.t 237) none (some (.t 241))) (some (234, false)),
    .mk4 18 (some 243) (.mv (.t 33)) (some (234, false)),
    .mk4 19 (some 244) (.ixaA 4 1 (.t 14) (.t 243)) (some (234, false)),
    .mk4 20 (some 245) (.load1 (.t 244)) (some (234, false)),
    .mk4 21 (some 246) (.bin .neq (.t 242) (.t 245)) (some (234, false)),
    .mk4 22 (some 247) (.pick (.t 234) (.c (.bool true)) (.t 246)) none,
    .mk4 23 (some 248) (.mv (.t 247)) none,
    .mk4 24 (some 249) (.mv (.t 33)) (some (248, false)),
    .mk4 25 (some 250) (.ixaA 4 1 (.t 13) (.t 249)) (some (248, false)),
    .mk4 26 (some 251) (.load1 (.t 250)) (some (248, false)),
    .mk4 27 (some 252) (.lenS (.t 251)) (some (248, false)),
    .mk4 28 (some 253) (.mv (.t 33)) (some (248, false)),
    .mk4 29 (some 254) (.ixaA 4 1 (.t 14) (.t 253)) (some (248, false)),
    .mk4 30 (some 255) (.load1 (.t 254)) (some (248, false)),
    .mk4 31 (some 256) (.lenS (.t 255)) (some (248, false)),
    .mk4 32 (some 257) (.bin .sub (.t 252) (.t 256)) (some (248, false)),
    .mk4 33 (some 258) (.mv (.t 0)) (some (248, false)),
    .mk4 34 (some 259) (.convInt .i64 (.t 258)) (some (248, false)),
    .mk4 35 (some 260) (.bin .rem (.t 259) (.c (.i 40))) (some (248, false)),
    .mk4 36 (some 261) (.bin .add (.c (.i 1)) (.t 260)) (some (248, false)),
    .mk4 37 (some 262) (.bin .gtr (.t 257) (.t 261)) (some (248, false)),
    .mk4 38 (some 263) (.pick (.t 248) (.c (.bool true)) (.t 262)) none] [0, 1, 5, 6, 7, 8, 10, 11, 13, 14, 71, 72, 222, 263]) (.cond (.t 263) (.seq (.region 0 [.mk4 0 (some 4) (.mv (.c (.bool false))) none] [4]) (.ret)) (.skip))
def c5_1 : AC :=
  .seq (.block 4 (.seq (.region 0 [.mk4 0 (some 224) (.mv (.t 222)) none,
    .mk4 1 (some 33) (.mv (.t 224)) none] [0, 1, 5, 6, 7, 8, 10, 11, 13, 14, 33, 71, 72, 222]) (c5_0))) (.region 0 [.mk4 0 (some 264) (.bin .add (.t 222) (.c (.i 1))) none,
    .mk4 1 (some 222) (.mv (.t 264)) none] [0, 1, 5, 6, 7, 8, 10, 11, 13, 14, 71, 72, 222])
def c5_2 : AC :=
  .region 0 [.mk4 0 (some 101) (.faddr 0 (.t 16)) none,
    .mk4 1 (some 102) (.load1 (.t 101)) none,
    .mk4 2 (some 103) (.bin .rem (.t 102) (.c (.i 8))) none,
    .mk4 3 (some 104) (.faddr 0 (.t 16)) none,
    .mk4 4 (some 105) (.load1 (.t 104)) none,
    .mk4 5 (some 106) (.bin .rem (.t 105) (.c (.i 8))) none,
    .mk4 6 (some 107) (.ixaA 4 1 (.t 13) (.t 106)) none,
    .mk4 7 (some 108) (.load1 (.t 107)) none,
    .mk4 8 (some 109) (.faddr 4 (.t 16)) none,
    .mk4 9 (some 110) (.load1 (.t 109)) none,
    .mk4 10 (some 111) (.mv (.t 18)) none,
    .mk4 11 (some 112) (.slice 1 (.t 110) none (some (.t 111)) none) none,
    .mk4 12 (some 113) (.ofBytes (.t 112)) none,
    .mk4 13 (some 114) (.bin .add (.t 108) (.t 113)) none,
    .mk4 14 (some 115) (.ixaA 4 1 (.t 13) (.t 103)) none,
    .mk4 15 none (.store 1 (.t 115) (.t 114)) none] [0, 1, 5, 6, 7, 8, 10, 11, 13, 14, 71, 72]
def c5_3 : AC :=
  .seq (.region 0 [.mk4 0 (some 94) (.mv (.t 6)) none,
    .mk4 1 (some 95) (.mv (.t 17)) none,
    .mk4 2 (some 96) (.faddr 4 (.t 16)) none,
    .mk4 3 (some 97) (.load1 (.t 96)) none,
    .mk4 4 (some 98) (.call 23 [(.t 94), (.t 95), (.t 97)]) none,
    .mk4 5 (some 93) (.mv (.t 98)) none,
    .mk4 6 (some 99) (.extract (.t 93) 0) none,
    .mk4 7 (some 100) (.extract (.t 93) 1) none,
    .mk4 8 (some 18) (.mv (.t 99)) none,
    .mk4 9 (some 19) (.mv (.t 100)) none] [0, 1, 5, 6, 7, 8, 10, 11, 13, 14, 16, 18, 71, 72]) (c5_2)
def c5_4 : AC :=
  .region 0 [.mk4 0 (some 126) (.ixaA 4 1 (.t 13) (.c (.i 2))) none,
    .mk4 1 (some 127) (.load1 (.t 126)) none,
    .mk4 2 (some 128) (.faddr 4 (.t 16)) none,
    .mk4 3 (some 129) (.load1 (.t 128)) none,
    .mk4 4 (some 130) (.mv (.t 20)) none,
    .mk4 5 (some 131) (.slice 1 (.t 129) none (some (.t 130)) none) none,
    .mk4 6 (some 132) (.ofBytes (.t 131)) none,
    .mk4 7 (some 133) (.bin .add (.t 127) (.t 132)) none,
    .mk4 8 (some 134) (.ixaA 4 1 (.t 13) (.c (.i 2))) none,
    .mk4 9 none (.store 1 (.t 134) (.t 133)) none] [0, 1, 5, 6, 7, 8, 10, 11, 13, 14, 71, 72]
def c5_5 : AC :=
  .region 0 [.mk4 0 (some 145) (.ixaA 4 1 (.t 13) (.c (.i 3))) none,
    .mk4 1 (some 146) (.load1 (.t 145)) none,
    .mk4 2 (some 147) (.faddr 4 (.t 16)) none,
    .mk4 3 (some 148) (.load1 (.t 147)) none,
    .mk4 4 (some 149) (.mv (.t 22)) none,
    .mk4 5 (some 150) (.slice 1 (.t 148) none (some (.t 149)) none) none,
    .mk4 6 (some 151) (.ofBytes (.t 150)) none,
    .mk4 7 (some 152) (.bin .add (.t 146) (.t 151)) none,
    .mk4 8 (some 153) (.ixaA 4 1 (.t 13) (.c (.i 3))) none,
    .mk4 9 none (.store 1 (.t 153) (.t 152)) none] [0, 1, 5, 6, 7, 8, 10, 11, 13, 14, 71, 72]
def c5_6 : AC :=
  .region 0 [.mk4 0 (some 175) (.faddr 0 (.t 16)) none,
    .mk4 1 (some 176) (.load1 (.t 175)) none,
    .mk4 2 (some 177) (.bin .rem (.t 176) (.c (.i 8))) none,
    .mk4 3 (some 178) (.bin .sub (.t 177) (.c (.i 4))) none,
    .mk4 4 (some 179) (.faddr 0 (.t 16)) none,
    .mk4 5 (some 180) (.load1 (.t 179)) none,
    .mk4 6 (some 181) (.bin .rem (.t 180) (.c (.i 8))) none,
    .mk4 7 (some 182) (.bin .sub (.t 181) (.c (.i 4))) none,
    .mk4 8 (some 183) (.ixaA 4 1 (.t 14) (.t 182)) none,
    .mk4 9 (some 184) (.load1 (.t 183)) none,
    .mk4 10 (some 185) (.mv (.t 25)) none,
    .mk4 11 (some 186) (.ofBytes (.t 185)) none,
    .mk4 12 (some 187) (.bin .add (.t 184) (.t 186)) none,
    .mk4 13 (some 188) (.ixaA 4 1 (.t 14) (.t 178)) none,
    .mk4 14 none (.store 1 (.t 188) (.t 187)) none] [0, 1, 5, 6, 7, 8, 10, 11, 13, 14, 71, 72]
def c5_7 : AC :=
  .seq (.region 0 [.mk4 0 (some 167) (.mv (.t 6)) none,
    .mk4 1 (some 168) (.mv (.t 24)) none,
    .mk4 2 (some 169) (.faddr 2 (.t 16)) none,
    .mk4 3 (some 170) (.load1 (.t 169)) none,
    .mk4 4 (some 171) (.call 21 [(.t 167), (.t 168), (.t 170)]) none,
    .mk4 5 (some 166) (.mv (.t 171)) none,
    .mk4 6 (some 172) (.extract (.t 166) 0) none,
    .mk4 7 (some 173) (.extract (.t 166) 1) none,
    .mk4 8 (some 174) (.extract (.t 166) 2) none,
    .mk4 9 (some 25) (.mv (.t 172)) none,
    .mk4 10 (some 26) (.mv (.t 173)) none,
    .mk4 11 (some 27) (.mv (.t 174)) none] [0, 1, 5, 6, 7, 8, 10, 11, 13, 14, 16, 25, 71, 72]) (c5_6)
def c5_8 : AC :=
  .region 0 [.mk4 0 (some 199) (.ixaA 4 1 (.t 14) (.c (.i 2))) none,
    .mk4 1 (some 200) (.load1 (.t 199)) none,
    .mk4 2 (some 201) (.mv (.t 28)) none,
    .mk4 3 (some 202) (.ofBytes (.t 201)) none,
    .mk4 4 (some 203) (.bin .add (.t 200) (.t 202)) none,
    .mk4 5 (some 204) (.ixaA 4 1 (.t 14) (.c (.i 2))) none,
    .mk4 6 none (.store 1 (.t 204) (.t 203)) none] [0, 1, 5, 6, 7, 8, 10, 11, 13, 14, 71, 72]
def c5_9 : AC :=
  .region 0 [.mk4 0 (some 216) (.ixaA 4 1 (.t 14) (.c (.i 3))) none,
    .mk4 1 (some 217) (.load1 (.t 216)) none,
    .mk4 2 (some 218) (.mv (.t 30)) none,
    .mk4 3 (some 219) (.ofBytes (.t 218)) none,
    .mk4 4 (some 220) (.bin .add (.t 217) (.t 219)) none,
    .mk4 5 (some 221) (.ixaA 4 1 (.t 14) (.c (.i 3))) none,
    .mk4 6 none (.store 1 (.t 221) (.t 220)) none] [0, 1, 5, 6, 7, 8, 10, 11, 13, 14, 71, 72]
def c5_10 : AC :=
  .seq (.region 0 [.mk4 0 (some 208) (.mv (.t 6)) none,
    .mk4 1 (some 209) (.mv (.t 10)) none,
    .mk4 2 (some 210) (.faddr 2 (.t 16)) none,
    .mk4 3 (some 211) (.load1 (.t 210)) none,
    .mk4 4 (some 212) (.call 21 [(.t 208), (.t 209), (.t 211)]) none,
    .mk4 5 (some 207) (.mv (.t 212)) none,
    .mk4 6 (some 213) (.extract (.t 207) 0) none,
    .mk4 7 (some 214) (.extract (.t 207) 1) none,
    .mk4 8 (some 215) (.extract (.t 207) 2) none,
    .mk4 9 (some 30) (.mv (.t 213)) none,
    .mk4 10 (some 31) (.mv (.t 214)) none,
    .mk4 11 (some 32) (.mv (.t 215)) none] [0, 1, 5, 6, 7, 8, 10, 11, 13, 14, 30, 71, 72]) (c5_9)
def c5_11 : AC :=
  .seq (.region 0 [.mk4 0 (some 192) (.mv (.t 6)) none,
    .mk4 1 (some 193) (.mv (.t 11)) none,
    .mk4 2 (some 194) (.faddr 2 (.t 16)) none,
    .mk4 3 (some 195) (.load1 (.t 194)) none,
    .mk4 4 (some 196) (.call 26 [(.t 192), (.t 193), (.t 195)]) none,
    .mk4 5 (some 191) (.mv (.t 196)) none,
    .mk4 6 (some 197) (.extract (.t 191) 0) none,
    .mk4 7 (some 198) (.extract (.t 191) 1) none,
    .mk4 8 (some 28) (.mv (.t 197)) none,
    .mk4 9 (some 29) (.mv (.t 198)) none] [0, 1, 5, 6, 7, 8, 10, 11, 13, 14, 28, 71, 72]) (c5_8)
def c5_12 : AC :=
  .seq (.region 0 [.mk4 0 (some 157) (.mv (.t 8)) none,
    .mk4 1 (some 158) (.mv (.t 7)) none,
    .mk4 2 (some 159) (.bslice 1 2 [.i 0, .i 0] [(0, (.t 157)), (1, (.t 158))]) none,
    .mk4 3 (some 160) (.faddr 0 (.t 16)) none,
    .mk4 4 (some 161) (.load1 (.t 160)) none,
    .mk4 5 (some 162) (.bin .rem (.t 161) (.c (.i 8))) none,
    .mk4 6 (some 163) (.bin .sub (.t 162) (.c (.i 4))) none,
    .mk4 7 (some 164) (.ixaS 1 (.t 159) (.t 163)) none,
    .mk4 8 (some 165) (.load1 (.t 164)) none,
    .mk4 9 (some 24) (.mv (.t 165)) none] [0, 1, 5, 6, 7, 8, 10, 11, 13, 14, 16, 24, 71, 72]) (c5_7)
def c5_13 : AC :=
  .seq (.region 0 [.mk4 0 (some 190) (.bin .eql (.t 81) (.c (.i 6))) none,
    .mk4 1 (some 189) (.mv (.t 190)) none] [0, 1, 5, 6, 7, 8, 10, 11, 13, 14, 16, 71, 72, 81, 189]) (.cond (.t 189) (c5_11) (.seq (.region 0 [.mk4 0 (some 206) (.bin .eql (.t 81) (.c (.i 7))) none,
    .mk4 1 (some 205) (.mv (.t 206)) none] [0, 1, 5, 6, 7, 8, 10, 11, 13, 14, 16, 71, 72, 205]) (.cond (.t 205) (c5_10) (.skip))))
def c5_14 : AC :=
  .seq (.region 0 [.mk4 0 (some 138) (.mv (.t 6)) none,
    .mk4 1 (some 139) (.mv (.t 11)) none,
    .mk4 2 (some 140) (.faddr 4 (.t 16)) none,
    .mk4 3 (some 141) (.load1 (.t 140)) none,
    .mk4 4 (some 142) (.call 19 [(.t 138), (.t 139), (.t 141)]) none,
    .mk4 5 (some 137) (.mv (.t 142)) none,
    .mk4 6 (some 143) (.extract (.t 137) 0) none,
    .mk4 7 (some 144) (.extract (.t 137) 1) none,
    .mk4 8 (some 22) (.mv (.t 143)) none,
    .mk4 9 (some 23) (.mv (.t 144)) none] [0, 1, 5, 6, 7, 8, 10, 11, 13, 14, 16, 22, 71, 72]) (c5_5)
def c5_15 : AC :=
  .seq (.seq (.region 0 [.mk4 0 (some 155) (.bin .eql (.t 81) (.c (.i 4))) none,
    .mk4 1 (some 154) (.mv (.t 155)) none] [0, 1, 5, 6, 7, 8, 10, 11, 13, 14, 16, 71, 72, 81, 154]) (.cond (.t 154) (.skip) (.region 0 [.mk4 0 (some 156) (.bin .eql (.t 81) (.c (.i 5))) none,
    .mk4 1 (some 154) (.mv (.t 156)) none] [0, 1, 5, 6, 7, 8, 10, 11, 13, 14, 16, 71, 72, 81, 154]))) (.cond (.t 154) (c5_12) (c5_13))
def c5_16 : AC :=
  .seq (.region 0 [.mk4 0 (some 119) (.mv (.t 6)) none,
    .mk4 1 (some 120) (.mv (.t 10)) none,
    .mk4 2 (some 121) (.faddr 4 (.t 16)) none,
    .mk4 3 (some 122) (.load1 (.t 121)) none,
    .mk4 4 (some 123) (.call 23 [(.t 119), (.t 120), (.t 122)]) none,
    .mk4 5 (some 118) (.mv (.t 123)) none,
    .mk4 6 (some 124) (.extract (.t 118) 0) none,
    .mk4 7 (some 125) (.extract (.t 118) 1) none,
    .mk4 8 (some 20) (.mv (.t 124)) none,
    .mk4 9 (some 21) (.mv (.t 125)) none] [0, 1, 5, 6, 7, 8, 10, 11, 13, 14, 16, 20, 71, 72]) (c5_4)
def c5_17 : AC :=
  .seq (.region 0 [.mk4 0 (some 85) (.mv (.t 7)) none,
    .mk4 1 (some 86) (.mv (.t 8)) none,
    .mk4 2 (some 87) (.bslice 1 2 [.i 0, .i 0] [(0, (.t 85)), (1, (.t 86))]) none,
    .mk4 3 (some 88) (.faddr 0 (.t 16)) none,
    .mk4 4 (some 89) (.load1 (.t 88)) none,
    .mk4 5 (some 90) (.bin .rem (.t 89) (.c (.i 8))) none,
    .mk4 6 (some 91) (.ixaS 1 (.t 87) (.t 90)) none,
    .mk4 7 (some 92) (.load1 (.t 91)) none,
    .mk4 8 (some 17) (.mv (.t 92)) none] [0, 1, 5, 6, 7, 8, 10, 11, 13, 14, 16, 17, 71, 72]) (c5_3)
def c5_18 : AC :=
  .seq (.region 0 [.mk4 0 (some 117) (.bin .eql (.t 81) (.c (.i 2))) none,
    .mk4 1 (some 116) (.mv (.t 117)) none] [0, 1, 5, 6, 7, 8, 10, 11, 13, 14, 16, 71, 72, 81, 116]) (.cond (.t 116) (c5_16) (.seq (.region 0 [.mk4 0 (some 136) (.bin .eql (.t 81) (.c (.i 3))) none,
    .mk4 1 (some 135) (.mv (.t 136)) none] [0, 1, 5, 6, 7, 8, 10, 11, 13, 14, 16, 71, 72, 81, 135]) (.cond (.t 135) (c5_14) (c5_15))))
def c5_19 : AC :=
  .seq (.seq (.region 0 [.mk4 0 (some 83) (.bin .eql (.t 81) (.c (.i 0))) none,
    .mk4 1 (some 82) (.mv (.t 83)) none] [0, 1, 5, 6, 7, 8, 10, 11, 13, 14, 16, 71, 72, 81, 82]) (.cond (.t 82) (.skip) (.region 0 [.mk4 0 (some 84) (.bin .eql (.t 81) (.c (.i 1))) none,
    .mk4 1 (some 82) (.mv (.t 84)) none] [0, 1, 5, 6, 7, 8, 10, 11, 13, 14, 16, 71, 72, 81, 82]))) (.cond (.t 82) (c5_17) (c5_18))
def c5_20 : AC :=
  .seq (.region 0 [.mk4 0 (some 222) (.mv (.c (.i 0))) none] [0, 1, 5, 6, 7, 8, 10, 11, 13, 14, 71, 72, 222]) (.block 3 (.loop [0, 1, 5, 6, 7, 8, 10, 11, 13, 14, 71, 72, 222] (.seq (.region 0 [.mk4 0 (some 223) (.bin .lss (.t 222) (.c (.i 4))) none] [0, 1, 5, 6, 7, 8, 10, 11, 13, 14, 71, 72, 222, 223]) (.seq (.cond (.t 223) (.skip) (.exit 3)) (c5_1)))))
def c5_21 : AC :=
  .seq (.region 0 [.mk4 0 (some 75) (.mv (.t 1)) none,
    .mk4 1 (some 76) (.mv (.t 15)) none,
    .mk4 2 (some 77) (.ixaS 5 (.t 75) (.t 76)) none,
    .mk4 3 (some 78) (.loadN 5 (.t 77)) none,
    .mk4 4 (some 16) (.alloc 5 [.i 0, .i 0, .i 0, .int .u64 0, .nils]) none,
    .mk4 5 none (.store 5 (.t 16) (.t 78)) none] [0, 1, 5, 6, 7, 8, 10, 11, 13, 14, 16, 71, 72]) (.seq (.seq (.region 0 [.mk4 0 (some 79) (.faddr 0 (.t 16)) none,
    .mk4 1 (some 80) (.load1 (.t 79)) none,
    .mk4 2 (some 81) (.bin .rem (.t 80) (.c (.i 8))) none] [0, 1, 5, 6, 7, 8, 10, 11, 13, 14, 16, 71, 72, 81]) (.block 2 (c5_19))) (c5_20))
def c5_22 : AC :=
  .seq (.block 1 (.seq (.region 0 [.mk4 0 (some 74) (.mv (.t 72)) none,
    .mk4 1 (some 15) (.mv (.t 74)) none] [0, 1, 5, 6, 7, 8, 10, 11, 13, 14, 15, 71, 72]) (c5_21))) (.region 0 [.mk4 0 (some 265) (.bin .add (.t 72) (.c (.i 1))) none,
    .mk4 1 (some 72) (.mv (.t 265)) none] [0, 1, 5, 6, 7, 8, 10, 11, 13, 14, 71, 72])
def c5_23 : AC :=
  .seq (.seq (.region 0 [.mk4 0 (some 70) (.mv (.t 1)) none,
    .mk4 1 (some 71) (.lenL (.t 70)) none,
    .mk4 2 (some 72) (.mv (.c (.i 0))) none] [0, 1, 5, 6, 7, 8, 10, 11, 13, 14, 71, 72]) (.block 0 (.loop [0, 1, 5, 6, 7, 8, 10, 11, 13, 14, 71, 72] (.seq (.region 0 [.mk4 0 (some 73) (.bin .lss (.t 72) (.t 71)) none] [0, 1, 5, 6, 7, 8, 10, 11, 13, 14, 71, 72, 73]) (.seq (.cond (.t 73) (.skip) (.exit 0)) (c5_22)))))) (.seq (.region 0 [.mk4 0 (some 266) (.mv (.t 5)) none,
    .mk4 1 (some 4) (.mv (.t 266)) none] [4]) (.ret))
def c5_24 : AC :=
  .seq (.seq (.region 0 [.mk4 0 (some 64) (.mv (.t 9)) none,
    .mk4 1 (some 65) (.bin .neq (.t 64) (.c (.i 0))) none,
    .mk4 2 (some 66) (.mv (.t 65)) none,
    .mk4 3 (some 67) (.mv (.t 12)) (some (66, false)),
    .mk4 4 (some 68) (.bin .neq (.t 67) (.c (.i 0))) (some (66, false)),
    .mk4 5 (some 69) (.pick (.t 66) (.c (.bool true)) (.t 68)) none] [0, 1, 5, 6, 7, 8, 10, 11, 69]) (.cond (.t 69) (.seq (.region 0 [.mk4 0 (some 4) (.mv (.c (.bool false))) none] [4]) (.ret)) (.skip))) (.seq (.region 0 [.mk4 0 (some 13) (.alloc 4 [.str [], .str [], .str [], .str []]) none,
    .mk4 1 (some 14) (.alloc 4 [.str [], .str [], .str [], .str []]) none] [0, 1, 5, 6, 7, 8, 10, 11, 13, 14]) (c5_23))
def c5_25 : AC :=
  .seq (.region 0 [.mk4 0 (some 55) (.mv (.t 6)) none,
    .mk4 1 (some 56) (.mv (.t 0)) none,
    .mk4 2 (some 57) (.convInt .i64 (.t 56)) none,
    .mk4 3 (some 58) (.bin .rem (.t 57) (.c (.i 40))) none,
    .mk4 4 (some 59) (.bin .add (.c (.i 1)) (.t 58)) none,
    .mk4 5 (some 60) (.call 18 [(.t 55), (.t 59)]) none,
    .mk4 6 (some 54) (.mv (.t 60)) none,
    .mk4 7 (some 61) (.extract (.t 54) 0) none,
    .mk4 8 (some 62) (.extract (.t 54) 1) none,
    .mk4 9 (some 63) (.extract (.t 54) 2) none,
    .mk4 10 (some 10) (.mv (.t 61)) none,
    .mk4 11 (some 11) (.mv (.t 62)) none,
    .mk4 12 (some 12) (.mv (.t 63)) none] [0, 1, 5, 6, 7, 8, 9, 10, 11, 12]) (c5_24)
def c5_26 : AC :=
  .seq (.region 0 [.mk4 0 (some 45) (.mv (.t 6)) none,
    .mk4 1 (some 46) (.mv (.t 0)) none,
    .mk4 2 (some 47) (.convInt .i64 (.t 46)) none,
    .mk4 3 (some 48) (.bin .rem (.t 47) (.c (.i 40))) none,
    .mk4 4 (some 49) (.bin .add (.c (.i 1)) (.t 48)) none,
    .mk4 5 (some 50) (.call 25 [(.t 45), (.t 49)]) none,
    .mk4 6 (some 44) (.mv (.t 50)) none,
    .mk4 7 (some 51) (.extract (.t 44) 0) none,
    .mk4 8 (some 52) (.extract (.t 44) 1) none,
    .mk4 9 (some 53) (.extract (.t 44) 2) none,
    .mk4 10 (some 7) (.mv (.t 51)) none,
    .mk4 11 (some 8) (.mv (.t 52)) none,
    .mk4 12 (some 9) (.mv (.t 53)) none] [0, 1, 5, 6, 7, 8, 9]) (c5_25)
def c5_27 : AC :=
  .seq (.seq (.region 0 [.mk4 0 (some 35) (.mv (.t 1)) none,
    .mk4 1 (some 36) (.call 24 [(.t 35)]) none,
    .mk4 2 (some 37) (.bin .gtr (.t 36) (.c (.i 0))) none,
    .mk4 3 (some 38) (.mv (.t 37)) none,
    .mk4 4 (some 39) (.mv (.t 5)) (some (38, false)),
    .mk4 5 (some 40) (.un .not (.t 39)) (some (38, false)),
    .mk4 6 (some 41) (.pick (.t 38) (.c (.bool true)) (.t 40)) none] [0, 1, 5, 41]) (.cond (.t 41) (.seq (.region 0 [.mk4 0 (some 42) (.mv (.t 5)) none,
    .mk4 1 (some 4) (.mv (.t 42)) none] [4]) (.ret)) (.skip))) (.seq (.region 0 [.mk4 0 (some 43) (.call 17 []) none,
    .mk4 1 (some 6) (.mv (.t 43)) none] [0, 1, 5, 6]) (c5_26))
def c5 : AFn := ⟨2, 267, [.tmp 4],
  (.seq (.region 0 [.mk4 0 (some 4) (.mv (.c (.bool false))) none] [0, 1]) (.seq (.region 0 [.mk4 0 (some 34) (.call 16 []) none,
    .mk4 1 (some 5) (.mv (.t 34)) none] [0, 1, 5]) (c5_27)))⟩
def c16_0 : AC :=
  .seq (.region 0 [.mk4 0 (some 33) (.mv (.t 4)) none,
    .mk4 1 (some 34) (.bin .eql (.t 33) (.c (.i 0))) none,
    .mk4 2 (some 35) (.mv (.t 34)) none,
    .mk4 3 (some 36) (.mv (.t 2)) (some (35, true)),
    .mk4 4 (some 37) (.bin .eql (.t 36) (.c (.i 0))) (some (35, true)),
    .mk4 5 (some 38) (.pick (.t 35) (.t 37) (.c (.bool false))) none,
    .mk4 6 (some 39) (.mv (.t 38)) none,
    .mk4 7 (some 40) (.mv (.t 3)) (some (39, true)),
    .mk4 8 (some 41) (.bin .eql (.t 40) (.c (.i 0))) (some (39, true)),
    .mk4 9 (some 42) (.pick (.t 39) (.t 41) (.c (.bool false))) none,
    .mk4 10 (some 43) (.mv (.t 42)) none,
    .mk4 11 (some 44) (.mv (.t 5)) (some (43, true)),
    .mk4 12 (some 45) (.bin .eql (.t 44) (.c (.i 4))) (some (43, true)),
    .mk4 13 (some 46) (.pick (.t 43) (.t 45) (.c (.bool false))) none,
    .mk4 14 (some 47) (.mv (.t 46)) none,
    .mk4 15 (some 48) (.mv (.t 6)) (some (47, true)),
    .mk4 16 (some 49) (.bin .eql (.t 48) (.c (.i 0))) (some (47, true)),
    .mk4 17 (some 50) (.pick (.t 47) (.t 49) (.c (.bool false))) none,
    .mk4 18 (some 51) (.mv (.t 50)) none,
    .mk4 19 (some 52) (.faddr 1 (.t 7)) (some (51, true)),
    .mk4 20 (some 53) (.load1 (.t 52)) (some (51, true)),
    .mk4 21 (some 54) (.pick (.t 51) (.t 53) (.c (.bool false))) none,
    .mk4 22 (some 55) (.mv (.t 54)) none,
    .mk4 23 (some 56) (.faddr 2 (.t 7)) (some (55, true)),
    .mk4 24 (some 57) (.load1 (.t 56)) (some (55, true)),
    .mk4 25 (some 58) (.pick (.t 55) (.t 57) (.c (.bool false))) none,
    .mk4 26 (some 59) (.mv (.t 58)) none,
    .mk4 27 (some 60) (.faddr 5 (.t 7)) (some (59, true)),
    .mk4 28 (some 61) (.load1 (.t 60)) (some (59, true)),
    .mk4 29 (some 62) (.bin .eql (.t 61) (.c (.int .u64 1))) (some (59, true)),
    .mk4 30 (some 63) (.pick (.t 59) (.t 62) (.c (.bool false))) none,
    .mk4 31 (some 64) (.mv (.t 63)) none,
    .mk4 32 (some 65) (.mv (.t 8)) (some (64, true)),
    .mk4 33 (some 66) (.ofBytes (.t 65)) (some (64, true)),
    .mk4 34 (some 67) (.bin .eql (.t 66) (.c (.str [97, 98, 99]))) (some (64, true)),
    .mk4 35 (some 68) (.pick (.t 64) (.t 67) (.c (.bool false))) none,
    .mk4 36 (some 69) (.mv (.t 68)) none,
    .mk4 37 (some 70) (.mv (.t 9)) (some (69, true)),
    .mk4 38 (some 71) (.un .not (.t 70)) (some (69, true)),
    .mk4 39 (some 72) (.pick (.t 69) (.t 71) (.c (.bool false))) none,
    .mk4 40 (some 73) (.mv (.t 72)) none,
    .mk4 41 (some 74) (.mv (.t 10)) (some (73, true)),
    .mk4 42 (some 75) (.bin .eql (.t 74) (.c (.i 0))) (some (73, true)),
    .mk4 43 (some 76) (.pick (.t 73) (.t 75) (.c (.bool false))) none,
    .mk4 44 (some 0) (.mv (.t 76)) none] [0]) (.ret)
def c16_1 : AC :=
  .seq (.region 0 [.mk4 0 (some 28) (.mv (.t 1)) none,
    .mk4 1 (some 29) (.call 21 [(.t 28), (.c (.i 0)), (.c (.i 3))]) none,
    .mk4 2 (some 27) (.mv (.t 29)) none,
    .mk4 3 (some 30) (.extract (.t 27) 0) none,
    .mk4 4 (some 31) (.extract (.t 27) 1) none,
    .mk4 5 (some 32) (.extract (.t 27) 2) none,
    .mk4 6 (some 8) (.mv (.t 30)) none,
    .mk4 7 (some 9) (.mv (.t 31)) none,
    .mk4 8 (some 10) (.mv (.t 32)) none] [2, 3, 4, 5, 6, 7, 8, 9, 10]) (c16_0)
def c16_2 : AC :=
  .seq (.region 0 [.mk4 0 (some 25) (.mv (.t 1)) none,
    .mk4 1 (some 26) (.call 22 [(.t 25), (.c (.i 0))]) none,
    .mk4 2 (some 7) (.alloc 7 [.bool false, .bool false, .bool false, .bool false, .bool false, .int .u64 0, .int .u64 0]) none,
    .mk4 3 none (.store 7 (.t 7) (.t 26)) none] [1, 2, 3, 4, 5, 6, 7]) (c16_1)
def c16_3 : AC :=
  .seq (.region 0 [.mk4 0 (some 19) (.mv (.t 1)) none,
    .mk4 1 (some 20) (.bslice 1 6 [.int .u8 0, .int .u8 0, .int .u8 0, .int .u8 0, .int .u8 0, .int .u8 0] [(0, (.c (.int .u8 97))), (1, (.c (.int .u8 98))), (2, (.c (.int .u8 99))), (3, (.c (.int .u8 100))), (4, (.c (.int .u8 101))), (5, (.c (.int .u8 102)))]) none,
    .mk4 2 (some 21) (.mark (.t 20)) none,
    .mk4 3 (some 22) (.call 19 [(.t 19), (.c (.i 0)), (.t 21)]) none,
    .mk4 4 (some 18) (.mv (.t 22)) none,
    .mk4 5 (some 23) (.extract (.t 18) 0) none,
    .mk4 6 (some 24) (.extract (.t 18) 1) none,
    .mk4 7 (some 5) (.mv (.t 23)) none,
    .mk4 8 (some 6) (.mv (.t 24)) none] [1, 2, 3, 4, 5, 6]) (c16_2)
def c16_4 : AC :=
  .seq (.region 0 [.mk4 0 (some 13) (.mv (.t 1)) none,
    .mk4 1 (some 14) (.call 18 [(.t 13), (.c (.i 4))]) none,
    .mk4 2 (some 12) (.mv (.t 14)) none,
    .mk4 3 (some 15) (.extract (.t 12) 0) none,
    .mk4 4 (some 16) (.extract (.t 12) 1) none,
    .mk4 5 (some 17) (.extract (.t 12) 2) none,
    .mk4 6 (some 2) (.mv (.t 15)) none,
    .mk4 7 (some 3) (.mv (.t 16)) none,
    .mk4 8 (some 4) (.mv (.t 17)) none] [1, 2, 3, 4]) (c16_3)
def c16 : AFn := ⟨0, 77, [.tmp 0],
  (.seq (.region 0 [.mk4 0 (some 0) (.mv (.c (.bool false))) none] []) (.seq (.region 0 [.mk4 0 (some 11) (.call 17 []) none,
    .mk4 1 (some 1) (.mv (.t 11)) none] [1]) (c16_4)))⟩
def c17_0 : AC :=
  .seq (.region 0 [.mk4 0 (some 1) (.call 40 []) none,
    .mk4 1 (some 2) (.build ((List.replicate 96 ([.bool false, .i 0, .i 0] : List V)).flatten ++ [.nils, .ptr none, .int .u64 0, .bool false, .i 0, .i 0]) [(289, 1, (.t 1))]) none,
    .mk4 2 (some 3) (.box 294 (.t 2)) none,
    .mk4 3 (some 0) (.mv (.t 3)) none] [0]) (.ret)
def c17 : AFn := ⟨0, 4, [.tmp 0],
  (.seq (.region 0 [.mk4 0 (some 0) (.mv (.c (.ptr none))) none] []) (c17_0))⟩
def c18_0 : AC :=
  .seq (.region 0 [.mk4 0 (some 26) (.mv (.t 8)) none,
    .mk4 1 (some 27) (.ixaS 1 (.t 26) (.c (.i 0))) none,
    .mk4 2 (some 28) (.load1 (.t 27)) none,
    .mk4 3 (some 29) (.mv (.t 0)) none,
    .mk4 4 (some 30) (.nilck (.t 29)) none,
    .mk4 5 (some 31) (.faddr 288 (.t 30)) none,
    .mk4 6 (some 32) (.load1 (.t 31)) none,
    .mk4 7 (some 33) (.lenL (.t 32)) none,
    .mk4 8 (some 34) (.bin .sub (.t 33) (.c (.i 1))) none,
    .mk4 9 (some 4) (.mv (.t 28)) none,
    .mk4 10 (some 5) (.mv (.t 34)) none,
    .mk4 11 (some 6) (.mv (.c (.i 0))) none] [4, 5, 6]) (.ret)
def c18_1 : AC :=
  .seq (.seq (.region 0 [.mk4 0 (some 23) (.mv (.t 6)) none,
    .mk4 1 (some 24) (.bin .neq (.t 23) (.c (.i 0))) none] [0, 6, 8, 24]) (.cond (.t 24) (.seq (.region 0 [.mk4 0 (some 25) (.mv (.t 6)) none,
    .mk4 1 (some 4) (.mv (.c (.i 0))) none,
    .mk4 2 (some 5) (.mv (.c (.i 0))) none,
    .mk4 3 (some 6) (.mv (.t 25)) none] [4, 5, 6]) (.ret)) (.skip))) (c18_0)
def c18_2 : AC :=
  .seq (.region 0 [.mk4 0 (some 17) (.mv (.t 0)) none,
    .mk4 1 (some 18) (.mv (.t 1)) none,
    .mk4 2 (some 19) (.mv (.t 7)) none,
    .mk4 3 (some 20) (.call 42 [(.t 17), (.t 18), (.c (.i 1)), (.t 19)]) none,
    .mk4 4 (some 16) (.mv (.t 20)) none,
    .mk4 5 (some 21) (.extract (.t 16) 0) none,
    .mk4 6 (some 22) (.extract (.t 16) 1) none,
    .mk4 7 (some 8) (.mv (.t 21)) none,
    .mk4 8 (some 6) (.mv (.t 22)) none] [0, 6, 8]) (c18_1)
def c18_3 : AC :=
  .seq (.region 0 [.mk4 0 (some 11) (.mv (.t 7)) none,
    .mk4 1 (some 12) (.nilck (.t 11)) none,
    .mk4 2 (some 13) (.faddr 0 (.t 12)) none,
    .mk4 3 (some 14) (.ixaA 2 7 (.t 13) (.c (.i 1))) none,
    .mk4 4 (some 15) (.faddr 0 (.t 14)) none,
    .mk4 5 none (.store 1 (.t 15) (.c (.i 2))) none] [0, 1, 7]) (c18_2)
def c18_4 : AC :=
  .seq (.region 0 [.mk4 0 (some 4) (.mv (.c (.i 0))) none,
    .mk4 1 (some 5) (.mv (.c (.i 0))) none,
    .mk4 2 (some 6) (.mv (.c (.i 0))) none] [0, 1]) (.seq (.region 0 [.mk4 0 (some 9) (.mv (.t 1)) none,
    .mk4 1 (some 10) (.call 41 [(.t 9)]) none,
    .mk4 2 (some 7) (.mv (.t 10)) none] [0, 1, 7]) (c18_3))
def c18 : AFn := ⟨2, 35, [.tmp 4, .tmp 5, .tmp 6],
  (c18_4)⟩
def c19_0 : AC :=
  .seq (.region 0 [.mk4 0 (some 26) (.mv (.t 8)) none,
    .mk4 1 (some 27) (.nilck (.t 26)) none,
    .mk4 2 (some 28) (.faddr 0 (.t 27)) none,
    .mk4 3 (some 29) (.ixaA 2 7 (.t 28) (.c (.i 1))) none,
    .mk4 4 (some 30) (.faddr 4 (.t 29)) none,
    .mk4 5 (some 31) (.load1 (.t 30)) none,
    .mk4 6 (some 32) (.mv (.t 31)) none,
    .mk4 7 (some 33) (.mv (.t 8)) (some (32, false)),
    .mk4 8 (some 34) (.nilck (.t 33)) (some (32, false)),
    .mk4 9 (some 35) (.faddr 0 (.t 34)) (some (32, false)),
    .mk4 10 (some 36) (.ixaA 2 7 (.t 35) (.c (.i 0))) (some (32, false)),
    .mk4 11 (some 37) (.faddr 0 (.t 36)) (some (32, false)),
    .mk4 12 (some 38) (.load1 (.t 37)) (some (32, false)),
    .mk4 13 (some 39) (.bin .eql (.t 38) (.c (.i 3))) (some (32, false)),
    .mk4 14 (some 40) (.pick (.t 32) (.c (.bool true)) (.t 39)) none,
    .mk4 15 (some 25) (.mv (.t 40)) none] [2, 8, 25]) (.cond (.t 25) (.seq (.region 0 [.mk4 0 (some 6) (.mv (.c (.i 0))) none,
    .mk4 1 (some 7) (.mv (.c (.i 114))) none] [6, 7]) (.ret)) (.skip))
def c19_1 : AC :=
  .seq (.region 0 [.mk4 0 (some 21) (.mv (.t 8)) none,
    .mk4 1 (some 22) (.nilck (.t 21)) none,
    .mk4 2 (some 23) (.faddr 14 (.t 22)) none,
    .mk4 3 (some 24) (.load1 (.t 23)) none,
    .mk4 4 (some 20) (.mv (.t 24)) none] [2, 8, 20]) (.cond (.t 20) (.seq (.region 0 [.mk4 0 (some 6) (.mv (.c (.i 0))) none,
    .mk4 1 (some 7) (.mv (.c (.i 115))) none] [6, 7]) (.ret)) (c19_0))
def c19_2 : AC :=
  .seq (.region 0 [.mk4 0 (some 17) (.mv (.t 9)) none,
    .mk4 1 (some 18) (.bin .neq (.t 17) (.c (.i 0))) none,
    .mk4 2 (some 16) (.mv (.t 18)) none] [2, 8, 9, 16]) (.cond (.t 16) (.seq (.region 0 [.mk4 0 (some 19) (.mv (.t 9)) none,
    .mk4 1 (some 6) (.mv (.c (.i 0))) none,
    .mk4 2 (some 7) (.mv (.t 19)) none] [6, 7]) (.ret)) (c19_1))
def c19_3 : AC :=
  .seq (.region 0 [.mk4 0 (some 11) (.mv (.t 0)) none,
    .mk4 1 (some 12) (.mv (.t 1)) none,
    .mk4 2 (some 13) (.call 43 [(.t 11), (.t 12)]) none,
    .mk4 3 (some 10) (.mv (.t 13)) none,
    .mk4 4 (some 14) (.extract (.t 10) 0) none,
    .mk4 5 (some 15) (.extract (.t 10) 1) none,
    .mk4 6 (some 8) (.mv (.t 14)) none,
    .mk4 7 (some 9) (.mv (.t 15)) none] [2, 8, 9]) (.seq (.block 0 (c19_2)) (.seq (.region 0 [.mk4 0 (some 41) (.mv (.t 8)) none,
    .mk4 1 (some 42) (.mv (.t 2)) none,
    .mk4 2 (some 43) (.call 44 [(.t 41), (.c (.i 1)), (.t 42)]) none,
    .mk4 3 (some 6) (.mv (.t 43)) none,
    .mk4 4 (some 7) (.mv (.c (.i 0))) none] [6, 7]) (.ret)))
def c19 : AFn := ⟨3, 44, [.tmp 6, .tmp 7],
  (.seq (.region 0 [.mk4 0 (some 6) (.mv (.c (.i 0))) none,
    .mk4 1 (some 7) (.mv (.c (.i 0))) none] [0, 1, 2]) (c19_3))⟩
def c20_0 : AC :=
  .seq (.seq (.region 0 [.mk4 0 (some 13) (.mv (.t 6)) none,
    .mk4 1 (some 14) (.bin .eql (.t 13) (.c (.i 0))) none] [5, 6, 14]) (.cond (.t 14) (.region 0 [.mk4 0 (some 15) (.mv (.t 5)) none,
    .mk4 1 (some 16) (.call 45 [(.t 15), (.c (.i 1))]) none] [6]) (.skip))) (.seq (.region 0 [.mk4 0 (some 17) (.mv (.t 6)) none,
    .mk4 1 (some 4) (.mv (.t 17)) none] [4]) (.ret))
def c20_1 : AC :=
  .seq (.region 0 [.mk4 0 (some 8) (.mv (.t 0)) none,
    .mk4 1 (some 9) (.mv (.t 1)) none,
    .mk4 2 (some 10) (.call 43 [(.t 8), (.t 9)]) none,
    .mk4 3 (some 7) (.mv (.t 10)) none,
    .mk4 4 (some 11) (.extract (.t 7) 0) none,
    .mk4 5 (some 12) (.extract (.t 7) 1) none,
    .mk4 6 (some 5) (.mv (.t 11)) none,
    .mk4 7 (some 6) (.mv (.t 12)) none] [5, 6]) (c20_0)
def c20 : AFn := ⟨2, 18, [.tmp 4],
  (.seq (.region 0 [.mk4 0 (some 4) (.mv (.c (.i 0))) none] [0, 1]) (c20_1))⟩
def c21_0 : AC :=
  .seq (.region 0 [.mk4 0 (some 45) (.mv (.t 6)) none,
    .mk4 1 (some 46) (.lenL (.t 45)) none,
    .mk4 2 (some 47) (.bin .gtr (.t 46) (.c (.i 0))) none] [6, 9, 10, 47]) (.cond (.t 47) (.seq (.region 0 [.mk4 0 (some 48) (.mv (.t 6)) none,
    .mk4 1 (some 6) (.mv (.t 48)) none,
    .mk4 2 (some 7) (.mv (.c (.bool false))) none,
    .mk4 3 (some 8) (.mv (.c (.i 0))) none] [6, 7, 8]) (.ret)) (.skip))
def c21_1 : AC :=
  .seq (.seq (.region 0 [.mk4 0 (some 49) (.mv (.t 10)) none,
    .mk4 1 (some 50) (.faddr 2 (.t 9)) none,
    .mk4 2 (some 51) (.load1 (.t 50)) none,
    .mk4 3 (some 52) (.call 47 [(.t 49), (.t 51)]) none] [52]) (.cond (.t 52) (.seq (.region 0 [.mk4 0 (some 6) (.mv (.c (.nils))) none,
    .mk4 1 (some 7) (.mv (.c (.bool true))) none,
    .mk4 2 (some 8) (.mv (.c (.i 0))) none] [6, 7, 8]) (.ret)) (.skip))) (.seq (.region 0 [.mk4 0 (some 6) (.mv (.c (.nils))) none,
    .mk4 1 (some 7) (.mv (.c (.bool false))) none,
    .mk4 2 (some 8) (.mv (.c (.i 113))) none] [6, 7, 8]) (.ret))
def c21_2 : AC :=
  .seq (.region 0 [.mk4 0 (some 36) (.mv (.t 10)) none,
    .mk4 1 (some 37) (.nilck (.t 36)) none,
    .mk4 2 (some 38) (.faddr 14 (.t 37)) none,
    .mk4 3 (some 39) (.load1 (.t 38)) none,
    .mk4 4 (some 35) (.mv (.t 39)) none] [2, 9, 10, 35]) (.cond (.t 35) (.seq (.region 0 [.mk4 0 (some 6) (.mv (.c (.nils))) none,
    .mk4 1 (some 7) (.mv (.c (.bool false))) none,
    .mk4 2 (some 8) (.mv (.c (.i 115))) none] [6, 7, 8]) (.ret)) (.skip))
def c21_3 : AC :=
  .seq (.region 0 [.mk4 0 (some 33) (.mv (.t 2)) none,
    .mk4 1 (some 34) (.bin .lss (.t 33) (.c (.i 1))) none,
    .mk4 2 (some 32) (.mv (.t 34)) none] [2, 9, 10, 32]) (.cond (.t 32) (.seq (.region 0 [.mk4 0 (some 6) (.mv (.c (.nils))) none,
    .mk4 1 (some 7) (.mv (.c (.bool false))) none,
    .mk4 2 (some 8) (.mv (.c (.i 2))) none] [6, 7, 8]) (.ret)) (c21_2))
def c21_4 : AC :=
  .seq (.region 0 [.mk4 0 (some 23) (.mv (.t 10)) none,
    .mk4 1 (some 24) (.faddr 2 (.t 9)) none,
    .mk4 2 (some 25) (.load1 (.t 24)) none,
    .mk4 3 (some 26) (.nilck (.t 23)) none,
    .mk4 4 (some 27) (.faddr 0 (.t 26)) none,
    .mk4 5 (some 28) (.ixaA 2 7 (.t 27) (.t 25)) none,
    .mk4 6 (some 29) (.faddr 2 (.t 28)) none,
    .mk4 7 (some 30) (.load1 (.t 29)) none,
    .mk4 8 (some 31) (.eq .ptr false (.t 30) (.c (.ptr none))) none,
    .mk4 9 (some 22) (.mv (.t 31)) none] [2, 9, 10, 22]) (.cond (.t 22) (.seq (.region 0 [.mk4 0 (some 6) (.mv (.c (.nils))) none,
    .mk4 1 (some 7) (.mv (.c (.bool false))) none,
    .mk4 2 (some 8) (.mv (.c (.i 111))) none] [6, 7, 8]) (.ret)) (c21_3))
def c21_5 : AC :=
  .seq (.region 0 [.mk4 0 (some 19) (.mv (.t 8)) none,
    .mk4 1 (some 20) (.bin .neq (.t 19) (.c (.i 0))) none,
    .mk4 2 (some 18) (.mv (.t 20)) none] [2, 8, 9, 10, 18]) (.cond (.t 18) (.seq (.region 0 [.mk4 0 (some 21) (.mv (.t 8)) none,
    .mk4 1 (some 6) (.mv (.c (.nils))) none,
    .mk4 2 (some 7) (.mv (.c (.bool false))) none,
    .mk4 3 (some 8) (.mv (.t 21)) none] [6, 7, 8]) (.ret)) (c21_4))
def c21_6 : AC :=
  .seq (.seq (.region 0 [.mk4 0 (some 40) (.mv (.t 10)) none,
    .mk4 1 (some 41) (.faddr 2 (.t 9)) none,
    .mk4 2 (some 42) (.load1 (.t 41)) none,
    .mk4 3 (some 43) (.mv (.t 2)) none,
    .mk4 4 (some 44) (.call 46 [(.t 40), (.t 42), (.t 43)]) none,
    .mk4 5 (some 6) (.mv (.t 44)) none] [6, 9, 10]) (c21_0)) (c21_1)
def c21_7 : AC :=
  .seq (.region 0 [.mk4 0 (some 12) (.mv (.t 0)) none,
    .mk4 1 (some 13) (.mv (.t 1)) none,
    .mk4 2 (some 14) (.call 36 [(.t 12), (.t 13)]) none,
    .mk4 3 (some 11) (.mv (.t 14)) none,
    .mk4 4 (some 15) (.extract (.t 11) 0) none,
    .mk4 5 (some 16) (.extract (.t 11) 1) none,
    .mk4 6 (some 17) (.extract (.t 11) 2) none,
    .mk4 7 (some 9) (.alloc 3 [.bool false, .i 0, .i 0]) none,
    .mk4 8 none (.store 3 (.t 9) (.t 15)) none,
    .mk4 9 (some 10) (.mv (.t 16)) none,
    .mk4 10 (some 8) (.mv (.t 17)) none] [2, 8, 9, 10]) (.seq (.block 0 (c21_5)) (c21_6))
def c21 : AFn := ⟨3, 53, [.tmp 6, .tmp 7, .tmp 8],
  (.seq (.region 0 [.mk4 0 (some 6) (.mv (.c (.nils))) none,
    .mk4 1 (some 7) (.mv (.c (.bool false))) none,
    .mk4 2 (some 8) (.mv (.c (.i 0))) none] [0, 1, 2]) (c21_7))⟩
def c22_0 : AC :=
  .seq (.region 0 [.mk4 0 (some 85) (.faddr 3 (.t 8)) none,
    .mk4 1 (some 86) (.load1 (.t 85)) none,
    .mk4 2 (some 87) (.mv (.t 86)) none,
    .mk4 3 (some 88) (.faddr 4 (.t 8)) (some (87, true)),
    .mk4 4 (some 89) (.load1 (.t 88)) (some (87, true)),
    .mk4 5 (some 90) (.un .not (.t 89)) (some (87, true)),
    .mk4 6 (some 91) (.pick (.t 87) (.t 90) (.c (.bool false))) none,
    .mk4 7 (some 92) (.mv (.t 91)) none,
    .mk4 8 (some 93) (.faddr 3 (.t 10)) (some (92, true)),
    .mk4 9 (some 94) (.load1 (.t 93)) (some (92, true)),
    .mk4 10 (some 95) (.mv (.t 94)) (some (92, true)),
    .mk4 11 (some 96) (.mv (.t 6)) (some (95, false)),
    .mk4 12 (some 97) (.nilck (.t 96)) (some (95, false)),
    .mk4 13 (some 98) (.faddr 14 (.t 97)) (some (95, false)),
    .mk4 14 (some 99) (.load1 (.t 98)) (some (95, false)),
    .mk4 15 (some 100) (.pick (.t 95) (.c (.bool true)) (.t 99)) (some (92, true)),
    .mk4 16 (some 101) (.mv (.t 100)) (some (92, true)),
    .mk4 17 (some 102) (.faddr 2 (.t 9)) (some (101, false)),
    .mk4 18 (some 103) (.load1 (.t 102)) (some (101, false)),
    .mk4 19 (some 104) (.call 49 [(.t 103)]) (some (101, false)),
    .mk4 20 (some 105) (.bin .gtr (.t 104) (.c (.i 0))) (some (101, false)),
    .mk4 21 (some 106) (.pick (.t 101) (.c (.bool true)) (.t 105)) (some (92, true)),
    .mk4 22 (some 107) (.pick (.t 92) (.t 106) (.c (.bool false))) none,
    .mk4 23 (some 108) (.faddr 2 (.t 10)) none,
    .mk4 24 none (.store 1 (.t 108) (.t 107)) none] [4, 10]) (.seq (.region 0 [.mk4 0 (some 109) (.loadN 7 (.t 10)) none,
    .mk4 1 none (.store 7 (.t 4) (.t 109)) none] [4]) (.ret))
def c22_1 : AC :=
  .seq (.region 0 [.mk4 0 (some 63) (.faddr 2 (.t 8)) none,
    .mk4 1 (some 64) (.load1 (.t 63)) none,
    .mk4 2 (some 65) (.eq .ptr true (.t 64) (.c (.ptr none))) none,
    .mk4 3 (some 66) (.mv (.t 65)) none,
    .mk4 4 (some 67) (.faddr 2 (.t 8)) (some (66, true)),
    .mk4 5 (some 68) (.load1 (.t 67)) (some (66, true)),
    .mk4 6 (some 69) (.call 48 [(.t 68)]) (some (66, true)),
    .mk4 7 (some 70) (.bin .gtr (.t 69) (.c (.i 0))) (some (66, true)),
    .mk4 8 (some 71) (.mv (.t 70)) (some (66, true)),
    .mk4 9 (some 72) (.mv (.t 6)) (some (71, false)),
    .mk4 10 (some 73) (.faddr 2 (.t 5)) (some (71, false)),
    .mk4 11 (some 74) (.load1 (.t 73)) (some (71, false)),
    .mk4 12 (some 75) (.call 47 [(.t 72), (.t 74)]) (some (71, false)),
    .mk4 13 (some 76) (.pick (.t 71) (.c (.bool true)) (.t 75)) (some (66, true)),
    .mk4 14 (some 77) (.mv (.t 76)) (some (66, true)),
    .mk4 15 (some 78) (.mv (.t 6)) (some (77, false)),
    .mk4 16 (some 79) (.nilck (.t 78)) (some (77, false)),
    .mk4 17 (some 80) (.faddr 14 (.t 79)) (some (77, false)),
    .mk4 18 (some 81) (.load1 (.t 80)) (some (77, false)),
    .mk4 19 (some 82) (.pick (.t 77) (.c (.bool true)) (.t 81)) (some (66, true)),
    .mk4 20 (some 83) (.pick (.t 66) (.t 82) (.c (.bool false))) none,
    .mk4 21 (some 84) (.faddr 1 (.t 10)) none,
    .mk4 22 none (.store 1 (.t 84) (.t 83)) none] [4, 6, 8, 9, 10]) (c22_0)
def c22_2 : AC :=
  .seq (.region 0 [.mk4 0 (some 46) (.mv (.t 6)) none,
    .mk4 1 (some 47) (.nilck (.t 46)) none,
    .mk4 2 (some 48) (.faddr 16 (.t 47)) none,
    .mk4 3 (some 49) (.load1 (.t 48)) none,
    .mk4 4 (some 50) (.lenL (.t 49)) none,
    .mk4 5 (some 51) (.bin .gtr (.t 50) (.c (.i 0))) none,
    .mk4 6 (some 52) (.faddr 1 (.t 10)) none,
    .mk4 7 none (.store 1 (.t 52) (.t 51)) none] [4, 10]) (.seq (.region 0 [.mk4 0 (some 53) (.loadN 7 (.t 10)) none,
    .mk4 1 none (.store 7 (.t 4) (.t 53)) none] [4]) (.ret))
def c22_3 : AC :=
  .seq (.region 0 [.mk4 0 (some 54) (.faddr 0 (.t 9)) none,
    .mk4 1 (some 55) (.load1 (.t 54)) none,
    .mk4 2 (some 56) (.bin .eql (.t 55) (.c (.i 3))) none,
    .mk4 3 (some 57) (.mv (.t 6)) none,
    .mk4 4 (some 58) (.nilck (.t 57)) none,
    .mk4 5 (some 59) (.faddr 14 (.t 58)) none,
    .mk4 6 (some 60) (.load1 (.t 59)) none,
    .mk4 7 (some 61) (.faddr 3 (.t 10)) none,
    ⟨8, none, .store 1 (.t 61) (.t 56), none, none, [(60, .load1 (.t 59), none)]⟩,
    .mk4 9 (some 62) (.faddr 4 (.t 10)) none,
    .mk4 10 none (.store 1 (.t 62) (.t 60)) none] [4, 5, 6, 8, 9, 10]) (c22_1)
def c22_4 : AC :=
  .seq (.seq (.region 0 [.mk4 0 (some 41) (.mv (.t 6)) none,
    .mk4 1 (some 42) (.nilck (.t 41)) none,
    .mk4 2 (some 43) (.faddr 15 (.t 42)) none,
    .mk4 3 (some 44) (.load1 (.t 43)) none,
    .mk4 4 (some 45) (.bin .gtr (.t 44) (.c (.i 0))) none] [4, 5, 6, 8, 9, 10, 45]) (.cond (.t 45) (c22_2) (.skip))) (c22_3)
def c22_5 : AC :=
  .seq (.region 0 [.mk4 0 (some 36) (.faddr 5 (.t 8)) none,
    .mk4 1 (some 37) (.load1 (.t 36)) none,
    .mk4 2 (some 38) (.faddr 6 (.t 8)) none,
    .mk4 3 (some 39) (.load1 (.t 38)) none,
    .mk4 4 (some 40) (.build [.bool false, .bool false, .bool false, .bool false, .bool false, .int .u64 0, .int .u64 0] [(0, 1, (.c (.bool true))), (5, 1, (.t 37)), (6, 1, (.t 39))]) none,
    .mk4 5 (some 10) (.alloc 7 [.bool false, .bool false, .bool false, .bool false, .bool false, .int .u64 0, .int .u64 0]) none,
    .mk4 6 none (.store 7 (.t 10) (.t 40)) none] [4, 5, 6, 8, 9, 10]) (c22_4)
def c22_6 : AC :=
  .seq (.region 2 [.mk4 0 (some 21) (.mv (.t 6)) none,
    .mk4 1 (some 22) (.faddr 2 (.t 5)) none,
    .mk4 2 (some 23) (.load1 (.t 22)) none,
    .mk4 3 (some 24) (.nilck (.t 21)) none,
    .mk4 4 (some 25) (.faddr 0 (.t 24)) none,
    .mk4 5 (some 26) (.ixaA 2 7 (.t 25) (.t 23)) none,
    .mk4 6 (some 27) (.loadN 7 (.t 26)) none,
    .mk4 7 (some 28) (.mv (.t 6)) none,
    .mk4 8 (some 29) (.faddr 2 (.t 5)) none,
    .mk4 9 (some 30) (.load1 (.t 29)) none,
    .mk4 10 (some 31) (.bin .sub (.c (.i 1)) (.t 30)) none,
    .mk4 11 (some 32) (.nilck (.t 28)) none,
    .mk4 12 (some 33) (.faddr 0 (.t 32)) none,
    .mk4 13 (some 34) (.ixaA 2 7 (.t 33) (.t 31)) none,
    .mk4 14 (some 35) (.loadN 7 (.t 34)) none,
    ⟨15, (some 8), .alloc 7 [.i 0, .i 0, .ptr none, .bool false, .bool false, .int .u64 0, .int .u64 0], none, some 0, []⟩,
    ⟨16, (some 9), .alloc 7 [.i 0, .i 0, .ptr none, .bool false, .bool false, .int .u64 0, .int .u64 0], none, some 1, []⟩,
    ⟨17, none, .store 7 (.t 8) (.t 27), none, none, [(30, .load1 (.t 29), none), (35, .loadN 7 (.t 34), none)]⟩,
    .mk4 18 none (.store 7 (.t 9) (.t 35)) none] [4, 5, 6, 8, 9]) (c22_5)
def c22_7 : AC :=
  .seq (.seq (.region 0 [.mk4 0 (some 18) (.mv (.t 7)) none,
    .mk4 1 (some 19) (.bin .neq (.t 18) (.c (.i 0))) none] [4, 5, 6, 19]) (.cond (.t 19) (.seq (.region 0 [.mk4 0 (some 20) (.build [.bool false, .bool false, .bool false, .bool false, .bool false, .int .u64 0, .int .u64 0] []) none,
    .mk4 1 none (.store 7 (.t 4) (.t 20)) none] [4]) (.ret)) (.skip))) (c22_6)
def c22_8 : AC :=
  .seq (.region 0 [.mk4 0 (some 12) (.mv (.t 0)) none,
    .mk4 1 (some 13) (.mv (.t 1)) none,
    .mk4 2 (some 14) (.call 36 [(.t 12), (.t 13)]) none,
    .mk4 3 (some 11) (.mv (.t 14)) none,
    .mk4 4 (some 15) (.extract (.t 11) 0) none,
    .mk4 5 (some 16) (.extract (.t 11) 1) none,
    .mk4 6 (some 17) (.extract (.t 11) 2) none,
    .mk4 7 (some 5) (.alloc 3 [.bool false, .i 0, .i 0]) none,
    .mk4 8 none (.store 3 (.t 5) (.t 15)) none,
    .mk4 9 (some 6) (.mv (.t 16)) none,
    .mk4 10 (some 7) (.mv (.t 17)) none] [4, 5, 6, 7]) (c22_7)
def c22 : AFn := ⟨2, 110, [.cellN 4 7],
  (.seq (.region 0 [.mk4 0 (some 4) (.alloc 7 [.bool false, .bool false, .bool false, .bool false, .bool false, .int .u64 0, .int .u64 0]) none] [0, 1, 4]) (c22_8))⟩
def c23_0 : AC :=
  .seq (.seq (.region 0 [.mk4 0 (some 68) (.mv (.t 11)) none,
    .mk4 1 (some 69) (.bin .eql (.t 68) (.c (.i 0))) none] [11, 69]) (.cond (.t 69) (.seq (.region 0 [.mk4 0 (some 6) (.mv (.c (.i 0))) none,
    .mk4 1 (some 7) (.mv (.c (.i 113))) none] [6, 7]) (.ret)) (.skip))) (.seq (.region 0 [.mk4 0 (some 70) (.mv (.t 11)) none,
    .mk4 1 (some 6) (.mv (.t 70)) none,
    .mk4 2 (some 7) (.mv (.c (.i 0))) none] [6, 7]) (.ret))
def c23_1 : AC :=
  .seq (.region 0 [.mk4 0 (some 60) (.mv (.t 2)) none,
    .mk4 1 (some 61) (.lenL (.t 60)) none,
    .mk4 2 (some 62) (.bin .eql (.t 61) (.c (.i 0))) none,
    .mk4 3 (some 59) (.mv (.t 62)) none] [2, 8, 9, 59]) (.cond (.t 59) (.seq (.region 0 [.mk4 0 (some 6) (.mv (.c (.i 0))) none,
    .mk4 1 (some 7) (.mv (.c (.i 0))) none] [6, 7]) (.ret)) (.skip))
def c23_2 : AC :=
  .seq (.region 0 [.mk4 0 (some 39) (.mv (.t 9)) none,
    .mk4 1 (some 40) (.faddr 2 (.t 8)) none,
    .mk4 2 (some 41) (.load1 (.t 40)) none,
    .mk4 3 (some 42) (.nilck (.t 39)) none,
    .mk4 4 (some 43) (.faddr 0 (.t 42)) none,
    .mk4 5 (some 44) (.ixaA 2 7 (.t 43) (.t 41)) none,
    .mk4 6 (some 45) (.faddr 4 (.t 44)) none,
    .mk4 7 (some 46) (.load1 (.t 45)) none,
    .mk4 8 (some 47) (.mv (.t 46)) none,
    .mk4 9 (some 48) (.mv (.t 9)) (some (47, false)),
    .mk4 10 (some 49) (.faddr 2 (.t 8)) (some (47, false)),
    .mk4 11 (some 50) (.load1 (.t 49)) (some (47, false)),
    .mk4 12 (some 51) (.bin .sub (.c (.i 1)) (.t 50)) (some (47, false)),
    .mk4 13 (some 52) (.nilck (.t 48)) (some (47, false)),
    .mk4 14 (some 53) (.faddr 0 (.t 52)) (some (47, false)),
    .mk4 15 (some 54) (.ixaA 2 7 (.t 53) (.t 51)) (some (47, false)),
    .mk4 16 (some 55) (.faddr 0 (.t 54)) (some (47, false)),
    .mk4 17 (some 56) (.load1 (.t 55)) (some (47, false)),
    .mk4 18 (some 57) (.bin .eql (.t 56) (.c (.i 3))) (some (47, false)),
    .mk4 19 (some 58) (.pick (.t 47) (.c (.bool true)) (.t 57)) none,
    .mk4 20 (some 38) (.mv (.t 58)) none] [2, 8, 9, 38]) (.cond (.t 38) (.seq (.region 0 [.mk4 0 (some 6) (.mv (.c (.i 0))) none,
    .mk4 1 (some 7) (.mv (.c (.i 114))) none] [6, 7]) (.ret)) (c23_1))
def c23_3 : AC :=
  .seq (.region 0 [.mk4 0 (some 34) (.mv (.t 9)) none,
    .mk4 1 (some 35) (.nilck (.t 34)) none,
    .mk4 2 (some 36) (.faddr 14 (.t 35)) none,
    .mk4 3 (some 37) (.load1 (.t 36)) none,
    .mk4 4 (some 33) (.mv (.t 37)) none] [2, 8, 9, 33]) (.cond (.t 33) (.seq (.region 0 [.mk4 0 (some 6) (.mv (.c (.i 0))) none,
    .mk4 1 (some 7) (.mv (.c (.i 115))) none] [6, 7]) (.ret)) (c23_2))
def c23_4 : AC :=
  .seq (.region 0 [.mk4 0 (some 24) (.mv (.t 9)) none,
    .mk4 1 (some 25) (.faddr 2 (.t 8)) none,
    .mk4 2 (some 26) (.load1 (.t 25)) none,
    .mk4 3 (some 27) (.nilck (.t 24)) none,
    .mk4 4 (some 28) (.faddr 0 (.t 27)) none,
    .mk4 5 (some 29) (.ixaA 2 7 (.t 28) (.t 26)) none,
    .mk4 6 (some 30) (.faddr 3 (.t 29)) none,
    .mk4 7 (some 31) (.load1 (.t 30)) none,
    .mk4 8 (some 32) (.un .not (.t 31)) none,
    .mk4 9 (some 23) (.mv (.t 32)) none] [2, 8, 9, 23]) (.cond (.t 23) (.seq (.region 0 [.mk4 0 (some 6) (.mv (.c (.i 0))) none,
    .mk4 1 (some 7) (.mv (.c (.i 111))) none] [6, 7]) (.ret)) (c23_3))
def c23_5 : AC :=
  .seq (.region 0 [.mk4 0 (some 20) (.mv (.t 10)) none,
    .mk4 1 (some 21) (.bin .neq (.t 20) (.c (.i 0))) none,
    .mk4 2 (some 19) (.mv (.t 21)) none] [2, 8, 9, 10, 19]) (.cond (.t 19) (.seq (.region 0 [.mk4 0 (some 22) (.mv (.t 10)) none,
    .mk4 1 (some 6) (.mv (.c (.i 0))) none,
    .mk4 2 (some 7) (.mv (.t 22)) none] [6, 7]) (.ret)) (c23_4))
def c23_6 : AC :=
  .seq (.region 0 [.mk4 0 (some 63) (.mv (.t 9)) none,
    .mk4 1 (some 64) (.faddr 2 (.t 8)) none,
    .mk4 2 (some 65) (.load1 (.t 64)) none,
    .mk4 3 (some 66) (.mv (.t 2)) none,
    .mk4 4 (some 67) (.call 44 [(.t 63), (.t 65), (.t 66)]) none,
    .mk4 5 (some 11) (.mv (.t 67)) none] [11]) (c23_0)
def c23_7 : AC :=
  .seq (.region 0 [.mk4 0 (some 13) (.mv (.t 0)) none,
    .mk4 1 (some 14) (.mv (.t 1)) none,
    .mk4 2 (some 15) (.call 36 [(.t 13), (.t 14)]) none,
    .mk4 3 (some 12) (.mv (.t 15)) none,
    .mk4 4 (some 16) (.extract (.t 12) 0) none,
    .mk4 5 (some 17) (.extract (.t 12) 1) none,
    .mk4 6 (some 18) (.extract (.t 12) 2) none,
    .mk4 7 (some 8) (.alloc 3 [.bool false, .i 0, .i 0]) none,
    .mk4 8 none (.store 3 (.t 8) (.t 16)) none,
    .mk4 9 (some 9) (.mv (.t 17)) none,
    .mk4 10 (some 10) (.mv (.t 18)) none] [2, 8, 9, 10]) (.seq (.block 0 (c23_5)) (c23_6))
def c23 : AFn := ⟨3, 71, [.tmp 6, .tmp 7],
  (.seq (.region 0 [.mk4 0 (some 6) (.mv (.c (.i 0))) none,
    .mk4 1 (some 7) (.mv (.c (.i 0))) none] [0, 1, 2]) (c23_7))⟩
def c24_0 : AC :=
  .seq (.region 0 [.mk4 0 (some 12) (.mv (.t 0)) none,
    .mk4 1 (some 13) (.mv (.t 3)) none,
    .mk4 2 (some 14) (.ixaS 5 (.t 12) (.t 13)) none,
    .mk4 3 (some 15) (.faddr 4 (.t 14)) none,
    .mk4 4 (some 16) (.load1 (.t 15)) none,
    .mk4 5 (some 17) (.lenL (.t 16)) none,
    .mk4 6 (some 18) (.bin .gtr (.t 17) (.c (.i 300))) none] [0, 8, 9, 18]) (.cond (.t 18) (.seq (.region 0 [.mk4 0 (some 2) (.mv (.c (.i 1))) none] [2]) (.ret)) (.skip))
def c24_1 : AC :=
  .seq (.region 0 [.mk4 0 (some 10) (.bin .lss (.t 9) (.t 8)) none] [0, 8, 9, 10]) (.seq (.cond (.t 10) (.skip) (.exit 0)) (.seq (.block 1 (.seq (.region 0 [.mk4 0 (some 11) (.mv (.t 9)) none,
    .mk4 1 (some 3) (.mv (.t 11)) none] [0, 3, 8, 9]) (c24_0))) (.region 0 [.mk4 0 (some 19) (.bin .add (.t 9) (.c (.i 1))) none,
    .mk4 1 (some 9) (.mv (.t 19)) none] [0, 8, 9])))
def c24_2 : AC :=
  .seq (.seq (.region 0 [.mk4 0 (some 4) (.mv (.t 0)) none,
    .mk4 1 (some 5) (.lenL (.t 4)) none,
    .mk4 2 (some 6) (.bin .gtr (.t 5) (.c (.i 200))) none] [0, 6]) (.cond (.t 6) (.seq (.region 0 [.mk4 0 (some 2) (.mv (.c (.i 1))) none] [2]) (.ret)) (.skip))) (.seq (.seq (.region 0 [.mk4 0 (some 7) (.mv (.t 0)) none,
    .mk4 1 (some 8) (.lenL (.t 7)) none,
    .mk4 2 (some 9) (.mv (.c (.i 0))) none] [0, 8, 9]) (.block 0 (.loop [0, 8, 9] (c24_1)))) (.seq (.region 0 [.mk4 0 (some 2) (.mv (.c (.i 0))) none] [2]) (.ret)))
def c24 : AFn := ⟨1, 20, [.tmp 2],
  (.seq (.region 0 [.mk4 0 (some 2) (.mv (.c (.i 0))) none] [0]) (c24_2))⟩
def c25_0 : AC :=
  .seq (.region 0 [.mk4 0 (some 19) (.mv (.t 7)) none,
    .mk4 1 (some 20) (.ixaS 1 (.t 19) (.c (.i 0))) none,
    .mk4 2 (some 21) (.load1 (.t 20)) none,
    .mk4 3 (some 22) (.mv (.t 7)) none,
    .mk4 4 (some 23) (.ixaS 1 (.t 22) (.c (.i 1))) none,
    .mk4 5 (some 24) (.load1 (.t 23)) none,
    .mk4 6 (some 4) (.mv (.t 21)) none,
    .mk4 7 (some 5) (.mv (.t 24)) none,
    .mk4 8 (some 6) (.mv (.c (.i 0))) none] [4, 5, 6]) (.ret)
def c25_1 : AC :=
  .seq (.seq (.region 0 [.mk4 0 (some 16) (.mv (.t 6)) none,
    .mk4 1 (some 17) (.bin .neq (.t 16) (.c (.i 0))) none] [6, 7, 17]) (.cond (.t 17) (.seq (.region 0 [.mk4 0 (some 18) (.mv (.t 6)) none,
    .mk4 1 (some 4) (.mv (.c (.i 0))) none,
    .mk4 2 (some 5) (.mv (.c (.i 0))) none,
    .mk4 3 (some 6) (.mv (.t 18)) none] [4, 5, 6]) (.ret)) (.skip))) (c25_0)
def c25_2 : AC :=
  .seq (.region 0 [.mk4 0 (some 9) (.mv (.t 0)) none,
    .mk4 1 (some 10) (.mv (.t 1)) none,
    .mk4 2 (some 11) (.mv (.t 1)) none,
    .mk4 3 (some 12) (.call 41 [(.t 11)]) none,
    .mk4 4 (some 13) (.call 42 [(.t 9), (.t 10), (.c (.i 2)), (.t 12)]) none,
    .mk4 5 (some 8) (.mv (.t 13)) none,
    .mk4 6 (some 14) (.extract (.t 8) 0) none,
    .mk4 7 (some 15) (.extract (.t 8) 1) none,
    .mk4 8 (some 7) (.mv (.t 14)) none,
    .mk4 9 (some 6) (.mv (.t 15)) none] [6, 7]) (c25_1)
def c25 : AFn := ⟨2, 25, [.tmp 4, .tmp 5, .tmp 6],
  (.seq (.region 0 [.mk4 0 (some 4) (.mv (.c (.i 0))) none,
    .mk4 1 (some 5) (.mv (.c (.i 0))) none,
    .mk4 2 (some 6) (.mv (.c (.i 0))) none] [0, 1]) (c25_2))⟩
def c26_0 : AC :=
  .seq (.region 0 [.mk4 0 (some 24) (.mv (.t 8)) none,
    .mk4 1 (some 25) (.nilck (.t 24)) none,
    .mk4 2 (some 26) (.faddr 14 (.t 25)) none,
    .mk4 3 (some 27) (.load1 (.t 26)) none,
    .mk4 4 (some 23) (.mv (.t 27)) none] [2, 8, 23]) (.cond (.t 23) (.seq (.region 0 [.mk4 0 (some 6) (.mv (.c (.nils))) none,
    .mk4 1 (some 7) (.mv (.c (.i 115))) none] [6, 7]) (.ret)) (.skip))
def c26_1 : AC :=
  .seq (.region 0 [.mk4 0 (some 21) (.mv (.t 2)) none,
    .mk4 1 (some 22) (.bin .lss (.t 21) (.c (.i 0))) none,
    .mk4 2 (some 20) (.mv (.t 22)) none] [2, 8, 20]) (.cond (.t 20) (.seq (.region 0 [.mk4 0 (some 6) (.mv (.c (.nils))) none,
    .mk4 1 (some 7) (.mv (.c (.i 2))) none] [6, 7]) (.ret)) (c26_0))
def c26_2 : AC :=
  .seq (.region 0 [.mk4 0 (some 17) (.mv (.t 9)) none,
    .mk4 1 (some 18) (.bin .neq (.t 17) (.c (.i 0))) none,
    .mk4 2 (some 16) (.mv (.t 18)) none] [2, 8, 9, 16]) (.cond (.t 16) (.seq (.region 0 [.mk4 0 (some 19) (.mv (.t 9)) none,
    .mk4 1 (some 6) (.mv (.c (.nils))) none,
    .mk4 2 (some 7) (.mv (.t 19)) none] [6, 7]) (.ret)) (c26_1))
def c26_3 : AC :=
  .seq (.region 0 [.mk4 0 (some 11) (.mv (.t 0)) none,
    .mk4 1 (some 12) (.mv (.t 1)) none,
    .mk4 2 (some 13) (.call 43 [(.t 11), (.t 12)]) none,
    .mk4 3 (some 10) (.mv (.t 13)) none,
    .mk4 4 (some 14) (.extract (.t 10) 0) none,
    .mk4 5 (some 15) (.extract (.t 10) 1) none,
    .mk4 6 (some 8) (.mv (.t 14)) none,
    .mk4 7 (some 9) (.mv (.t 15)) none] [2, 8, 9]) (.seq (.block 0 (c26_2)) (.seq (.region 0 [.mk4 0 (some 28) (.mv (.t 8)) none,
    .mk4 1 (some 29) (.mv (.t 2)) none,
    .mk4 2 (some 30) (.call 46 [(.t 28), (.c (.i 1)), (.t 29)]) none,
    .mk4 3 (some 6) (.mv (.t 30)) none,
    .mk4 4 (some 7) (.mv (.c (.i 0))) none] [6, 7]) (.ret)))
def c26 : AFn := ⟨3, 31, [.tmp 6, .tmp 7],
  (.seq (.region 0 [.mk4 0 (some 6) (.mv (.c (.nils))) none,
    .mk4 1 (some 7) (.mv (.c (.i 0))) none] [0, 1, 2]) (c26_3))⟩
def c36_0 : AC :=
  .seq (.region 0 [.mk4 0 (some 12) (.mv (.t 1)) none,
    .mk4 1 (some 13) (.bin .lss (.t 12) (.c (.i 0))) none,
    .mk4 2 (some 14) (.mv (.t 13)) none,
    .mk4 3 (some 15) (.mv (.t 1)) (some (14, false)),
    .mk4 4 (some 16) (.bin .gtr (.t 15) (.c (.i 95))) (some (14, false)),
    .mk4 5 (some 17) (.pick (.t 14) (.c (.bool true)) (.t 16)) none,
    .mk4 6 (some 18) (.mv (.t 17)) none,
    .mk4 7 (some 19) (.mv (.t 0)) (some (18, false)),
    .mk4 8 (some 20) (.mv (.t 1)) (some (18, false)),
    .mk4 9 (some 21) (.nilck (.t 19)) (some (18, false)),
    .mk4 10 (some 22) (.faddr 0 (.t 21)) (some (18, false)),
    .mk4 11 (some 23) (.ixaA 96 3 (.t 22) (.t 20)) (some (18, false)),
    .mk4 12 (some 24) (.faddr 0 (.t 23)) (some (18, false)),
    .mk4 13 (some 25) (.load1 (.t 24)) (some (18, false)),
    .mk4 14 (some 26) (.un .not (.t 25)) (some (18, false)),
    .mk4 15 (some 27) (.pick (.t 18) (.c (.bool true)) (.t 26)) none,
    .mk4 16 (some 11) (.mv (.t 27)) none] [0, 1, 4, 11]) (.cond (.t 11) (.seq (.region 0 [.mk4 0 (some 28) (.build [.bool false, .i 0, .i 0] []) none,
    .mk4 1 none (.store 3 (.t 4) (.t 28)) none,
    .mk4 2 (some 5) (.mv (.c (.ptr none))) none,
    .mk4 3 (some 6) (.mv (.c (.i 110))) none] [4, 5, 6]) (.ret)) (.skip))
def c36_1 : AC :=
  .seq (.region 0 [.mk4 0 (some 8) (.mv (.t 0)) none,
    .mk4 1 (some 9) (.call 59 [(.t 8)]) none,
    .mk4 2 (some 7) (.mv (.t 9)) none] [0, 1, 4, 7]) (.cond (.t 7) (.seq (.region 0 [.mk4 0 (some 10) (.build [.bool false, .i 0, .i 0] []) none,
    .mk4 1 none (.store 3 (.t 4) (.t 10)) none,
    .mk4 2 (some 5) (.mv (.c (.ptr none))) none,
    .mk4 3 (some 6) (.mv (.c (.i 1))) none] [4, 5, 6]) (.ret)) (c36_0))
def c36_2 : AC :=
  .seq (.region 0 [.mk4 0 (some 29) (.mv (.t 0)) none,
    .mk4 1 (some 30) (.mv (.t 1)) none,
    .mk4 2 (some 31) (.nilck (.t 29)) none,
    .mk4 3 (some 32) (.faddr 0 (.t 31)) none,
    .mk4 4 (some 33) (.ixaA 96 3 (.t 32) (.t 30)) none,
    .mk4 5 (some 34) (.loadN 3 (.t 33)) none,
    .mk4 6 (some 35) (.mv (.t 0)) none,
    .mk4 7 (some 36) (.nilck (.t 35)) none,
    .mk4 8 (some 37) (.faddr 288 (.t 36)) none,
    .mk4 9 (some 38) (.load1 (.t 37)) none,
    .mk4 10 (some 39) (.mv (.t 0)) none,
    .mk4 11 (some 40) (.mv (.t 1)) none,
    .mk4 12 (some 41) (.nilck (.t 39)) none,
    .mk4 13 (some 42) (.faddr 0 (.t 41)) none,
    .mk4 14 (some 43) (.ixaA 96 3 (.t 42) (.t 40)) none,
    .mk4 15 (some 44) (.faddr 1 (.t 43)) none,
    .mk4 16 (some 45) (.load1 (.t 44)) none,
    .mk4 17 (some 46) (.ixaS 1 (.t 38) (.t 45)) none,
    .mk4 18 (some 47) (.load1 (.t 46)) none,
    ⟨19, none, .store 3 (.t 4) (.t 34), none, none, [(38, .load1 (.t 37), none), (45, .load1 (.t 44), none), (47, .load1 (.t 46), none)]⟩,
    .mk4 20 (some 5) (.mv (.t 47)) none,
    .mk4 21 (some 6) (.mv (.c (.i 0))) none] [4, 5, 6]) (.ret)
def c36 : AFn := ⟨2, 48, [.cellN 4 3, .tmp 5, .tmp 6],
  (.seq (.region 0 [.mk4 0 (some 4) (.alloc 3 [.bool false, .i 0, .i 0]) none,
    .mk4 1 (some 5) (.mv (.c (.ptr none))) none,
    .mk4 2 (some 6) (.mv (.c (.i 0))) none] [0, 1, 4]) (.seq (.block 0 (c36_1)) (c36_2)))⟩
def c40 : AFn := ⟨0, 3, [.tmp 0],
  (.seq (.region 0 [.mk4 0 (some 0) (.mv (.c (.ptr none))) none] []) (.seq (.region 0 [.mk4 0 (some 1) (.build (List.replicate 32 (.bool false : V) ++ List.replicate 32 (.i 0 : V)) []) none,
    .mk4 1 (some 2) (.box 64 (.t 1)) none,
    .mk4 2 (some 0) (.mv (.t 2)) none] [0]) (.ret)))⟩
def c41_0 : AC :=
  .region 0 [.mk4 0 (some 21) (.mv (.t 3)) none,
    .mk4 1 (some 22) (.mv (.t 4)) none,
    .mk4 2 (some 23) (.nilck (.t 21)) none,
    .mk4 3 (some 24) (.faddr 0 (.t 23)) none,
    .mk4 4 (some 25) (.ixaA 2 7 (.t 24) (.t 22)) none,
    .mk4 5 (some 26) (.faddr 3 (.t 25)) none,
    .mk4 6 none (.store 1 (.t 26) (.c (.bool true))) none] [0, 3, 7]
def c41_1 : AC :=
  .seq (.region 0 [.mk4 0 (some 11) (.mv (.t 3)) none,
    .mk4 1 (some 12) (.mv (.t 4)) none,
    .mk4 2 (some 13) (.mv (.t 0)) none,
    .mk4 7 (some 17) (.nilck (.t 11)) none,
    .mk4 8 (some 18) (.faddr 0 (.t 17)) none,
    .mk4 3 (some 14) (.call 63 [(.t 13)]) none,
    .mk4 4 (some 10) (.mv (.t 14)) none,
    .mk4 5 (some 15) (.extract (.t 10) 0) none,
    .mk4 6 (some 16) (.extract (.t 10) 1) none,
    .mk4 9 (some 19) (.ixaA 2 7 (.t 18) (.t 12)) none,
    .mk4 10 (some 20) (.faddr 2 (.t 19)) none,
    .mk4 11 none (.store 1 (.t 20) (.t 15)) none] [0, 3, 4, 7]) (c41_0)
def c41_2 : AC :=
  .seq (.region 0 [.mk4 0 (some 8) (.bin .lss (.t 7) (.c (.i 2))) none] [0, 3, 7, 8]) (.seq (.cond (.t 8) (.skip) (.exit 0)) (.seq (.block 1 (.seq (.region 0 [.mk4 0 (some 9) (.mv (.t 7)) none,
    .mk4 1 (some 4) (.mv (.t 9)) none] [0, 3, 4, 7]) (c41_1))) (.region 0 [.mk4 0 (some 27) (.bin .add (.t 7) (.c (.i 1))) none,
    .mk4 1 (some 7) (.mv (.t 27)) none] [0, 3, 7])))
def c41_3 : AC :=
  .seq (.region 0 [.mk4 0 (some 5) (.build [.i 0, .i 0, .ptr none, .bool false, .bool false, .int .u64 0, .int .u64 0, .i 0, .i 0, .ptr none, .bool false, .bool false, .int .u64 0, .int .u64 0, .bool false, .i 0, .nils] []) none,
    .mk4 1 (some 6) (.box 17 (.t 5)) none,
    .mk4 2 (some 3) (.mv (.t 6)) none] [0, 3]) (.seq (.seq (.region 0 [.mk4 0 (some 7) (.mv (.c (.i 0))) none] [0, 3, 7]) (.block 0 (.loop [0, 3, 7] (c41_2)))) (.seq (.region 0 [.mk4 0 (some 28) (.mv (.t 3)) none,
    .mk4 1 (some 2) (.mv (.t 28)) none] [2]) (.ret)))
def c41 : AFn := ⟨1, 29, [.tmp 2],
  (.seq (.region 0 [.mk4 0 (some 2) (.mv (.c (.ptr none))) none] [0]) (c41_3))⟩
def c42_0 : AC :=
  .seq (.region 0 [.mk4 0 (some 27) (.mv (.t 0)) none,
    .mk4 1 (some 28) (.mv (.t 3)) none,
    .mk4 2 (some 29) (.mv (.t 10)) none,
    .mk4 3 (some 30) (.call 66 [(.t 27), (.t 28), (.t 29)]) none] [10]) (.seq (.region 0 [.mk4 0 (some 31) (.mv (.t 10)) none,
    .mk4 1 (some 8) (.mv (.t 31)) none,
    .mk4 2 (some 9) (.mv (.c (.i 0))) none] [8, 9]) (.ret))
def c42_1 : AC :=
  .seq (.region 0 [.mk4 0 (some 16) (.mv (.t 1)) none,
    .mk4 1 (some 17) (.call 64 [(.t 16)]) none,
    .mk4 2 (some 18) (.un .not (.t 17)) none,
    .mk4 3 (some 15) (.mv (.t 18)) none] [0, 2, 3, 15]) (.cond (.t 15) (.seq (.region 0 [.mk4 0 (some 8) (.mv (.c (.nils))) none,
    .mk4 1 (some 9) (.mv (.c (.i 2))) none] [8, 9]) (.ret)) (.skip))
def c42_2 : AC :=
  .seq (.region 0 [.mk4 0 (some 13) (.mv (.t 0)) none,
    .mk4 1 (some 14) (.call 59 [(.t 13)]) none,
    .mk4 2 (some 12) (.mv (.t 14)) none] [0, 1, 2, 3, 12]) (.cond (.t 12) (.seq (.region 0 [.mk4 0 (some 8) (.mv (.c (.nils))) none,
    .mk4 1 (some 9) (.mv (.c (.i 1))) none] [8, 9]) (.ret)) (c42_1))
def c42_3 : AC :=
  .seq (.region 0 [.mk4 0 (some 20) (.mv (.t 0)) none,
    .mk4 1 (some 21) (.mv (.t 2)) none,
    .mk4 2 (some 22) (.call 65 [(.t 20), (.t 21)]) none,
    .mk4 3 (some 19) (.mv (.t 22)) none,
    .mk4 4 (some 23) (.extract (.t 19) 0) none,
    .mk4 5 (some 24) (.extract (.t 19) 1) none,
    .mk4 6 (some 10) (.mv (.t 23)) none,
    .mk4 7 (some 11) (.mv (.t 24)) none] [0, 3, 10, 11]) (.seq (.seq (.region 0 [.mk4 0 (some 25) (.mv (.t 11)) none,
    .mk4 1 (some 26) (.un .not (.t 25)) none] [0, 3, 10, 26]) (.cond (.t 26) (.seq (.region 0 [.mk4 0 (some 8) (.mv (.c (.nils))) none,
    .mk4 1 (some 9) (.mv (.c (.i 112))) none] [8, 9]) (.ret)) (.skip))) (c42_0))
def c42 : AFn := ⟨4, 32, [.tmp 8, .tmp 9],
  (.seq (.region 0 [.mk4 0 (some 8) (.mv (.c (.nils))) none,
    .mk4 1 (some 9) (.mv (.c (.i 0))) none] [0, 1, 2, 3]) (.seq (.block 0 (c42_2)) (c42_3)))⟩
def c43_0 : AC :=
  .seq (.region 0 [.mk4 0 (some 10) (.mv (.t 1)) none,
    .mk4 1 (some 11) (.bin .lss (.t 10) (.c (.i 0))) none,
    .mk4 2 (some 12) (.mv (.t 11)) none,
    .mk4 3 (some 13) (.mv (.t 1)) (some (12, false)),
    .mk4 4 (some 14) (.mv (.t 0)) (some (12, false)),
    .mk4 5 (some 15) (.nilck (.t 14)) (some (12, false)),
    .mk4 6 (some 16) (.faddr 288 (.t 15)) (some (12, false)),
    .mk4 7 (some 17) (.load1 (.t 16)) (some (12, false)),
    .mk4 8 (some 18) (.lenL (.t 17)) (some (12, false)),
    .mk4 9 (some 19) (.bin .geq (.t 13) (.t 18)) (some (12, false)),
    .mk4 10 (some 20) (.pick (.t 12) (.c (.bool true)) (.t 19)) none,
    .mk4 11 (some 21) (.mv (.t 20)) none,
    .mk4 12 (some 22) (.mv (.t 0)) (some (21, false)),
    .mk4 13 (some 23) (.nilck (.t 22)) (some (21, false)),
    .mk4 14 (some 24) (.faddr 288 (.t 23)) (some (21, false)),
    .mk4 15 (some 25) (.load1 (.t 24)) (some (21, false)),
    .mk4 16 (some 26) (.mv (.t 1)) (some (21, false)),
    .mk4 17 (some 27) (.ixaS 1 (.t 25) (.t 26)) (some (21, false)),
    .mk4 18 (some 28) (.load1 (.t 27)) (some (21, false)),
    .mk4 19 (some 29) (.nilck (.t 28)) (some (21, false)),
    .mk4 20 (some 30) (.faddr 0 (.t 29)) (some (21, false)),
    .mk4 21 (some 31) (.ixaA 2 7 (.t 30) (.c (.i 1))) (some (21, false)),
    .mk4 22 (some 32) (.faddr 0 (.t 31)) (some (21, false)),
    .mk4 23 (some 33) (.load1 (.t 32)) (some (21, false)),
    .mk4 24 (some 34) (.bin .neq (.t 33) (.c (.i 2))) (some (21, false)),
    .mk4 25 (some 35) (.pick (.t 21) (.c (.bool true)) (.t 34)) none,
    .mk4 26 (some 9) (.mv (.t 35)) none] [0, 1, 9]) (.cond (.t 9) (.seq (.region 0 [.mk4 0 (some 4) (.mv (.c (.ptr none))) none,
    .mk4 1 (some 5) (.mv (.c (.i 116))) none] [4, 5]) (.ret)) (.skip))
def c43_1 : AC :=
  .seq (.region 0 [.mk4 0 (some 36) (.mv (.t 0)) none,
    .mk4 1 (some 37) (.nilck (.t 36)) none,
    .mk4 2 (some 38) (.faddr 288 (.t 37)) none,
    .mk4 3 (some 39) (.load1 (.t 38)) none,
    .mk4 4 (some 40) (.mv (.t 1)) none,
    .mk4 5 (some 41) (.ixaS 1 (.t 39) (.t 40)) none,
    .mk4 6 (some 42) (.load1 (.t 41)) none,
    .mk4 7 (some 4) (.mv (.t 42)) none,
    .mk4 8 (some 5) (.mv (.c (.i 0))) none] [4, 5]) (.ret)
def c43_2 : AC :=
  .seq (.block 0 (.seq (.region 0 [.mk4 0 (some 7) (.mv (.t 0)) none,
    .mk4 1 (some 8) (.call 59 [(.t 7)]) none,
    .mk4 2 (some 6) (.mv (.t 8)) none] [0, 1, 6]) (.cond (.t 6) (.seq (.region 0 [.mk4 0 (some 4) (.mv (.c (.ptr none))) none,
    .mk4 1 (some 5) (.mv (.c (.i 1))) none] [4, 5]) (.ret)) (c43_0)))) (c43_1)
def c43 : AFn := ⟨2, 43, [.tmp 4, .tmp 5],
  (.seq (.region 0 [.mk4 0 (some 4) (.mv (.c (.ptr none))) none,
    .mk4 1 (some 5) (.mv (.c (.i 0))) none] [0, 1]) (c43_2))⟩
def c44_0 : AC :=
  .seq (.region 0 [.mk4 0 (some 18) (.mv (.t 0)) none,
    .mk4 1 (some 19) (.mv (.t 1)) none,
    .mk4 2 (some 20) (.bin .sub (.c (.i 1)) (.t 19)) none,
    .mk4 3 (some 21) (.mv (.t 7)) none,
    .mk4 4 (some 22) (.bin .gtr (.t 21) (.c (.i 0))) none,
    .mk4 5 (some 23) (.call 60 [(.t 18), (.t 20), (.t 22), (.c (.bool false))]) none] [7]) (.seq (.region 0 [.mk4 0 (some 24) (.mv (.t 7)) none,
    .mk4 1 (some 6) (.mv (.t 24)) none] [6]) (.ret))
def c44_1 : AC :=
  .seq (.region 0 [.mk4 0 (some 8) (.mv (.t 0)) none,
    .mk4 1 (some 9) (.mv (.t 1)) none,
    .mk4 2 (some 10) (.bin .sub (.c (.i 1)) (.t 9)) none,
    .mk4 3 (some 11) (.nilck (.t 8)) none,
    .mk4 4 (some 12) (.faddr 0 (.t 11)) none,
    .mk4 5 (some 13) (.ixaA 2 7 (.t 12) (.t 10)) none,
    .mk4 6 (some 14) (.faddr 2 (.t 13)) none,
    .mk4 7 (some 15) (.load1 (.t 14)) none,
    .mk4 8 (some 16) (.mv (.t 2)) none,
    .mk4 9 (some 17) (.call 67 [(.t 15), (.t 16)]) none,
    .mk4 10 (some 7) (.mv (.t 17)) none] [0, 1, 7]) (c44_0)
def c44 : AFn := ⟨3, 25, [.tmp 6],
  (.seq (.region 0 [.mk4 0 (some 6) (.mv (.c (.i 0))) none] [0, 1, 2]) (c44_1))⟩
def c45_0 : AC :=
  .seq (.region 0 [.mk4 0 (some 12) (.mv (.t 0)) none,
    .mk4 1 (some 13) (.mv (.t 1)) none,
    .mk4 2 (some 14) (.nilck (.t 12)) none,
    .mk4 3 (some 15) (.faddr 0 (.t 14)) none,
    .mk4 4 (some 16) (.ixaA 2 7 (.t 15) (.t 13)) none,
    .mk4 5 (some 17) (.faddr 4 (.t 16)) none,
    .mk4 6 none (.store 1 (.t 17) (.c (.bool true))) none] [0, 1]) (.region 0 [.mk4 0 (some 18) (.mv (.t 0)) none,
    .mk4 1 (some 19) (.mv (.t 1)) none,
    .mk4 2 (some 20) (.bin .sub (.c (.i 1)) (.t 19)) none,
    .mk4 3 (some 21) (.call 60 [(.t 18), (.t 20), (.c (.bool true)), (.c (.bool false))]) none] [])
def c45_1 : AC :=
  .seq (.region 0 [.mk4 0 (some 4) (.mv (.t 0)) none,
    .mk4 1 (some 5) (.mv (.t 1)) none,
    .mk4 2 (some 6) (.nilck (.t 4)) none,
    .mk4 3 (some 7) (.faddr 0 (.t 6)) none,
    .mk4 4 (some 8) (.ixaA 2 7 (.t 7) (.t 5)) none,
    .mk4 5 (some 9) (.faddr 4 (.t 8)) none,
    .mk4 6 (some 10) (.load1 (.t 9)) none,
    .mk4 7 (some 11) (.un .not (.t 10)) none] [0, 1, 11]) (.cond (.t 11) (c45_0) (.skip))
def c45 : AFn := ⟨2, 22, [],
  (c45_1)⟩
def c46_0 : AC :=
  .seq (.region 0 [.mk4 0 (some 17) (.mv (.t 0)) none,
    .mk4 1 (some 18) (.mv (.t 1)) none,
    .mk4 2 (some 19) (.bin .sub (.c (.i 1)) (.t 18)) none,
    .mk4 3 (some 20) (.mv (.t 7)) none,
    .mk4 4 (some 21) (.lenL (.t 20)) none,
    .mk4 5 (some 22) (.bin .gtr (.t 21) (.c (.i 0))) none,
    .mk4 6 (some 23) (.call 60 [(.t 17), (.t 19), (.c (.bool false)), (.t 22)]) none] [7]) (.seq (.region 0 [.mk4 0 (some 24) (.mv (.t 7)) none,
    .mk4 1 (some 6) (.mv (.t 24)) none] [6]) (.ret))
def c46_1 : AC :=
  .seq (.region 0 [.mk4 0 (some 8) (.mv (.t 0)) none,
    .mk4 1 (some 9) (.mv (.t 1)) none,
    .mk4 2 (some 10) (.nilck (.t 8)) none,
    .mk4 3 (some 11) (.faddr 0 (.t 10)) none,
    .mk4 4 (some 12) (.ixaA 2 7 (.t 11) (.t 9)) none,
    .mk4 5 (some 13) (.faddr 2 (.t 12)) none,
    .mk4 6 (some 14) (.load1 (.t 13)) none,
    .mk4 7 (some 15) (.mv (.t 2)) none,
    .mk4 8 (some 16) (.call 68 [(.t 14), (.t 15)]) none,
    .mk4 9 (some 7) (.mv (.t 16)) none] [0, 1, 7]) (c46_0)
def c46 : AFn := ⟨3, 25, [.tmp 6],
  (.seq (.region 0 [.mk4 0 (some 6) (.mv (.c (.nils))) none] [0, 1, 2]) (c46_1))⟩
def c47_0 : AC :=
  .seq (.region 0 [.mk4 0 (some 5) (.mv (.t 0)) none,
    .mk4 1 (some 6) (.mv (.t 1)) none,
    .mk4 2 (some 7) (.bin .sub (.c (.i 1)) (.t 6)) none,
    .mk4 3 (some 8) (.nilck (.t 5)) none,
    .mk4 4 (some 9) (.faddr 0 (.t 8)) none,
    .mk4 5 (some 10) (.ixaA 2 7 (.t 9) (.t 7)) none,
    .mk4 6 (some 11) (.faddr 0 (.t 10)) none,
    .mk4 7 (some 12) (.load1 (.t 11)) none,
    .mk4 8 (some 13) (.bin .eql (.t 12) (.c (.i 3))) none,
    .mk4 9 (some 14) (.mv (.t 13)) none,
    .mk4 10 (some 15) (.mv (.t 0)) (some (14, false)),
    .mk4 11 (some 16) (.mv (.t 1)) (some (14, false)),
    .mk4 12 (some 17) (.bin .sub (.c (.i 1)) (.t 16)) (some (14, false)),
    .mk4 13 (some 18) (.nilck (.t 15)) (some (14, false)),
    .mk4 14 (some 19) (.faddr 0 (.t 18)) (some (14, false)),
    .mk4 15 (some 20) (.ixaA 2 7 (.t 19) (.t 17)) (some (14, false)),
    .mk4 16 (some 21) (.faddr 4 (.t 20)) (some (14, false)),
    .mk4 17 (some 22) (.load1 (.t 21)) (some (14, false)),
    .mk4 18 (some 23) (.pick (.t 14) (.c (.bool true)) (.t 22)) none,
    .mk4 19 (some 4) (.mv (.t 23)) none] [4]) (.ret)
def c47 : AFn := ⟨2, 24, [.tmp 4],
  (.seq (.region 0 [.mk4 0 (some 4) (.mv (.c (.bool false))) none] [0, 1]) (c47_0))⟩
def c48_0 : AC :=
  .seq (.seq (.region 0 [.mk4 0 (some 3) (.mv (.t 0)) none,
    .mk4 1 (some 4) (.call 69 [(.t 3)]) none] [0, 4]) (.cond (.t 4) (.seq (.region 0 [.mk4 0 (some 2) (.mv (.c (.i 0))) none] [2]) (.ret)) (.skip))) (.seq (.region 0 [.mk4 0 (some 5) (.mv (.t 0)) none,
    .mk4 1 (some 6) (.nilck (.t 5)) none,
    .mk4 2 (some 7) (.faddr 2 (.t 6)) none,
    .mk4 3 (some 8) (.load1 (.t 7)) none,
    .mk4 4 (some 2) (.mv (.t 8)) none] [2]) (.ret))
def c48 : AFn := ⟨1, 9, [.tmp 2],
  (.seq (.region 0 [.mk4 0 (some 2) (.mv (.c (.i 0))) none] [0]) (c48_0))⟩
def c49_0 : AC :=
  .seq (.region 0 [.mk4 0 (some 5) (.mv (.t 0)) none,
    .mk4 1 (some 6) (.nilck (.t 5)) none,
    .mk4 2 (some 7) (.faddr 0 (.t 6)) none,
    .mk4 3 (some 8) (.load1 (.t 7)) none,
    .mk4 4 (some 9) (.lenL (.t 8)) none,
    .mk4 5 (some 10) (.mv (.t 0)) none,
    .mk4 6 (some 11) (.nilck (.t 10)) none,
    .mk4 7 (some 12) (.faddr 2 (.t 11)) none,
    .mk4 8 (some 13) (.load1 (.t 12)) none,
    .mk4 9 (some 14) (.bin .sub (.t 9) (.t 13)) none,
    .mk4 10 (some 2) (.mv (.t 14)) none] [2]) (.ret)
def c49 : AFn := ⟨1, 15, [.tmp 2],
  (.seq (.region 0 [.mk4 0 (some 2) (.mv (.c (.i 0))) none] [0]) (.seq (.seq (.region 0 [.mk4 0 (some 3) (.mv (.t 0)) none,
    .mk4 1 (some 4) (.call 69 [(.t 3)]) none] [0, 4]) (.cond (.t 4) (.seq (.region 0 [.mk4 0 (some 2) (.mv (.c (.i 0))) none] [2]) (.ret)) (.skip))) (c49_0)))⟩
def c59_0 : AC :=
  .seq (.region 0 [.mk4 0 (some 3) (.mv (.t 0)) none,
    .mk4 1 (some 4) (.eq .ptr false (.t 3) (.c (.ptr none))) none,
    .mk4 2 (some 5) (.mv (.t 4)) none,
    .mk4 3 (some 6) (.mv (.t 0)) (some (5, false)),
    .mk4 4 (some 7) (.nilck (.t 6)) (some (5, false)),
    .mk4 5 (some 8) (.faddr 289 (.t 7)) (some (5, false)),
    .mk4 6 (some 9) (.load1 (.t 8)) (some (5, false)),
    .mk4 7 (some 10) (.eq .ptr false (.t 9) (.c (.ptr none))) (some (5, false)),
    .mk4 8 (some 11) (.pick (.t 5) (.c (.bool true)) (.t 10)) none,
    .mk4 9 (some 2) (.mv (.t 11)) none] [2]) (.ret)
def c59 : AFn := ⟨1, 12, [.tmp 2],
  (.seq (.region 0 [.mk4 0 (some 2) (.mv (.c (.bool false))) none] [0]) (c59_0))⟩
def c60_0 : AC :=
  .region 0 [.mk4 0 (some 41) (.mv (.t 0)) none,
    .mk4 1 (some 42) (.mv (.t 1)) none,
    .mk4 2 (some 43) (.nilck (.t 41)) none,
    .mk4 3 (some 44) (.faddr 0 (.t 43)) none,
    .mk4 4 (some 45) (.ixaA 2 7 (.t 44) (.t 42)) none,
    .mk4 5 (some 46) (.faddr 6 (.t 45)) none,
    .mk4 6 (some 47) (.load1 (.t 46)) none,
    .mk4 7 (some 48) (.bin .add (.t 47) (.c (.int .u64 1))) none,
    .mk4 8 (some 49) (.nilck (.t 41)) none,
    .mk4 9 (some 50) (.faddr 0 (.t 49)) none,
    .mk4 10 (some 51) (.ixaA 2 7 (.t 50) (.t 42)) none,
    .mk4 11 (some 52) (.faddr 6 (.t 51)) none,
    .mk4 12 none (.store 1 (.t 52) (.t 48)) none] []
def c60_1 : AC :=
  .region 0 [.mk4 0 (some 19) (.mv (.t 0)) none,
    .mk4 1 (some 20) (.mv (.t 1)) none,
    .mk4 2 (some 21) (.nilck (.t 19)) none,
    .mk4 3 (some 22) (.faddr 0 (.t 21)) none,
    .mk4 4 (some 23) (.ixaA 2 7 (.t 22) (.t 20)) none,
    .mk4 5 (some 24) (.faddr 5 (.t 23)) none,
    .mk4 6 (some 25) (.load1 (.t 24)) none,
    .mk4 7 (some 26) (.bin .add (.t 25) (.c (.int .u64 1))) none,
    .mk4 8 (some 27) (.nilck (.t 19)) none,
    .mk4 9 (some 28) (.faddr 0 (.t 27)) none,
    .mk4 10 (some 29) (.ixaA 2 7 (.t 28) (.t 20)) none,
    .mk4 11 (some 30) (.faddr 5 (.t 29)) none,
    .mk4 12 none (.store 1 (.t 30) (.t 26)) none] [0, 1, 3]
def c60_2 : AC :=
  .seq (.region 0 [.mk4 0 (some 31) (.mv (.t 3)) none,
    .mk4 1 (some 32) (.mv (.t 31)) none,
    .mk4 2 (some 33) (.mv (.t 0)) (some (32, true)),
    .mk4 3 (some 34) (.mv (.t 1)) (some (32, true)),
    .mk4 4 (some 35) (.nilck (.t 33)) (some (32, true)),
    .mk4 5 (some 36) (.faddr 0 (.t 35)) (some (32, true)),
    .mk4 6 (some 37) (.ixaA 2 7 (.t 36) (.t 34)) (some (32, true)),
    .mk4 7 (some 38) (.faddr 3 (.t 37)) (some (32, true)),
    .mk4 8 (some 39) (.load1 (.t 38)) (some (32, true)),
    .mk4 9 (some 40) (.pick (.t 32) (.t 39) (.c (.bool false))) none] [0, 1, 40]) (.cond (.t 40) (c60_0) (.skip))
def c60_3 : AC :=
  .seq (.seq (.region 0 [.mk4 0 (some 8) (.mv (.t 2)) none,
    .mk4 1 (some 9) (.mv (.t 8)) none,
    .mk4 2 (some 10) (.mv (.t 0)) (some (9, true)),
    .mk4 3 (some 11) (.mv (.t 1)) (some (9, true)),
    .mk4 4 (some 12) (.nilck (.t 10)) (some (9, true)),
    .mk4 5 (some 13) (.faddr 0 (.t 12)) (some (9, true)),
    .mk4 6 (some 14) (.ixaA 2 7 (.t 13) (.t 11)) (some (9, true)),
    .mk4 7 (some 15) (.faddr 2 (.t 14)) (some (9, true)),
    .mk4 8 (some 16) (.load1 (.t 15)) (some (9, true)),
    .mk4 9 (some 17) (.eq .ptr true (.t 16) (.c (.ptr none))) (some (9, true)),
    .mk4 10 (some 18) (.pick (.t 9) (.t 17) (.c (.bool false))) none] [0, 1, 3, 18]) (.cond (.t 18) (c60_1) (.skip))) (c60_2)
def c60 : AFn := ⟨4, 53, [],
  (c60_3)⟩
def c63_0 : AC :=
  .seq (.region 0 [.mk4 0 (some 10) (.mv (.t 0)) none,
    .mk4 1 (some 11) (.mkSlice 1 1 [.int .u8 0] (.t 10) (.t 10)) none,
    .mk4 2 (some 12) (.build [.nils, .i 0, .i 0, .int .u64 0, .int .u64 0, .bool false] [(0, 1, (.t 11)), (5, 1, (.c (.bool true)))]) none,
    .mk4 3 (some 13) (.box 6 (.t 12)) none,
    .mk4 4 (some 2) (.mv (.t 13)) none,
    .mk4 5 (some 3) (.mv (.c (.i 0))) none] [2, 3]) (.ret)
def c63_1 : AC :=
  .seq (.seq (.region 0 [.mk4 0 (some 4) (.mv (.t 0)) none,
    .mk4 1 (some 5) (.bin .lss (.t 4) (.c (.i 0))) none,
    .mk4 2 (some 6) (.mv (.t 5)) none,
    .mk4 3 (some 7) (.mv (.t 0)) (some (6, false)),
    .mk4 4 (some 8) (.bin .gtr (.t 7) (.c (.i 65536))) (some (6, false)),
    .mk4 5 (some 9) (.pick (.t 6) (.c (.bool true)) (.t 8)) none] [0, 9]) (.cond (.t 9) (.seq (.region 0 [.mk4 0 (some 2) (.mv (.c (.ptr none))) none,
    .mk4 1 (some 3) (.mv (.c (.i 2))) none] [2, 3]) (.ret)) (.skip))) (c63_0)
def c63 : AFn := ⟨1, 14, [.tmp 2, .tmp 3],
  (.seq (.region 0 [.mk4 0 (some 2) (.mv (.c (.ptr none))) none,
    .mk4 1 (some 3) (.mv (.c (.i 0))) none] [0]) (c63_1))⟩
def c64_0 : AC :=
  .seq (.region 0 [.mk4 0 (some 3) (.mv (.t 0)) none,
    .mk4 1 (some 4) (.bin .geq (.t 3) (.c (.i 1))) none,
    .mk4 2 (some 5) (.mv (.t 4)) none,
    .mk4 3 (some 6) (.mv (.t 0)) (some (5, true)),
    .mk4 4 (some 7) (.bin .leq (.t 6) (.c (.i 65536))) (some (5, true)),
    .mk4 5 (some 8) (.pick (.t 5) (.t 7) (.c (.bool false))) none,
    .mk4 6 (some 2) (.mv (.t 8)) none] [2]) (.ret)
def c64 : AFn := ⟨1, 9, [.tmp 2],
  (.seq (.region 0 [.mk4 0 (some 2) (.mv (.c (.bool false))) none] [0]) (c64_0))⟩
def c65_0 : AC :=
  .seq (.seq (.region 0 [.mk4 0 (some 11) (.load1 (.t 6)) none,
    .mk4 1 (some 12) (.lenL (.t 11)) none,
    .mk4 2 (some 13) (.load1 (.t 3)) none,
    .mk4 3 (some 14) (.bin .eql (.t 12) (.t 13)) none] [6, 7, 14]) (.cond (.t 14) (.exit 0) (.skip))) (.region 0 [.mk4 0 (some 15) (.load1 (.t 6)) none,
    .mk4 1 (some 16) (.mv (.t 7)) none,
    .mk4 2 (some 17) (.bslice 1 1 [.i 0] [(0, (.t 16))]) none,
    .mk4 3 (some 18) (.append 1 8 (.t 15) (.t 17)) none,
    .mk4 4 none (.store 1 (.t 6) (.t 18)) none] [])
def c65_1 : AC :=
  .seq (.region 0 [.mk4 0 (some 19) (.load1 (.t 6)) none,
    .mk4 1 (some 20) (.load1 (.t 6)) none,
    .mk4 2 (some 21) (.lenL (.t 20)) none,
    .mk4 3 (some 22) (.load1 (.t 3)) none,
    .mk4 4 (some 23) (.bin .eql (.t 21) (.t 22)) none,
    .mk4 5 (some 24) (.mv (.t 23)) none,
    .mk4 6 (some 25) (.mv (.t 0)) (some (24, true)),
    .mk4 7 (some 26) (.nilck (.t 25)) (some (24, true)),
    .mk4 8 (some 27) (.faddr 288 (.t 26)) (some (24, true)),
    .mk4 9 (some 28) (.load1 (.t 27)) (some (24, true)),
    .mk4 10 (some 29) (.lenL (.t 28)) (some (24, true)),
    .mk4 11 (some 30) (.bin .lss (.t 29) (.c (.i 1000))) (some (24, true)),
    .mk4 12 (some 31) (.pick (.t 24) (.t 30) (.c (.bool false))) none,
    .mk4 13 (some 4) (.mv (.t 19)) none,
    .mk4 14 (some 5) (.mv (.t 31)) none] [4, 5]) (.ret)
def c65_2 : AC :=
  .scope (.seq (.region 0 [.mk4 0 (some 6) (.alloc 1 [.nils]) none] [0, 3, 6]) (.seq (.label 0) (.seq (.seq (.region 0 [.mk4 0 (some 8) (.mv (.t 0)) none,
    .mk4 1 (some 9) (.call 74 [(.t 8)]) none] [0, 3, 6, 9]) (.block 0 (.rangeFunc (.t 9) [10] [3, 6] (.region 0 [.mk4 0 (some 7) (.mv (.t 10)) none] [3, 6, 7]) (.block 1 (c65_0))))) (c65_1))))
def c65 : AFn := ⟨2, 32, [.tmp 4, .tmp 5],
  (.seq (.region 0 [.mk4 0 (some 3) (.box 1 (.t 1)) none,
    .mk4 1 (some 4) (.mv (.c (.nils))) none,
    .mk4 2 (some 5) (.mv (.c (.bool false))) none] [0, 3]) (c65_2))⟩
def c66_0 : AC :=
  .region 0 [.mk4 0 (some 28) (.mv (.t 0)) none,
    .mk4 1 (some 29) (.mv (.t 7)) none,
    .mk4 2 (some 30) (.mv (.t 0)) none,
    .mk4 3 (some 31) (.nilck (.t 30)) none,
    .mk4 4 (some 32) (.faddr 288 (.t 31)) none,
    .mk4 5 (some 33) (.load1 (.t 32)) none,
    .mk4 6 (some 34) (.lenL (.t 33)) none,
    .mk4 7 (some 35) (.mv (.t 6)) none,
    .mk4 8 (some 36) (.build [.bool false, .i 0, .i 0] [(0, 1, (.c (.bool true))), (1, 1, (.t 34)), (2, 1, (.t 35))]) none,
    .mk4 9 (some 37) (.nilck (.t 28)) none,
    .mk4 10 (some 38) (.faddr 0 (.t 37)) none,
    .mk4 11 (some 39) (.ixaA 96 3 (.t 38) (.t 29)) none,
    .mk4 12 none (.store 3 (.t 39) (.t 36)) none] [0, 1, 8, 9, 10]
def c66_1 : AC :=
  .seq (.region 0 [.mk4 0 (some 15) (.mv (.t 1)) none,
    .mk4 1 (some 16) (.mv (.t 6)) none,
    .mk4 2 (some 17) (.mv (.t 1)) none,
    .mk4 3 (some 18) (.mv (.t 6)) none,
    .mk4 4 (some 19) (.mv (.t 7)) none,
    .mk4 5 (some 20) (.nilck (.t 15)) none,
    .mk4 6 (some 21) (.faddr 0 (.t 20)) none,
    .mk4 7 (some 22) (.ixaA 2 7 (.t 21) (.t 16)) none,
    .mk4 8 (some 23) (.faddr 0 (.t 22)) none,
    .mk4 10 (some 24) (.nilck (.t 17)) none,
    .mk4 11 (some 25) (.faddr 0 (.t 24)) none,
    .mk4 9 none (.store 1 (.t 23) (.c (.i 1))) none,
    .mk4 12 (some 26) (.ixaA 2 7 (.t 25) (.t 18)) none,
    .mk4 13 (some 27) (.faddr 1 (.t 26)) none,
    .mk4 14 none (.store 1 (.t 27) (.t 19)) none] [0, 1, 6, 7, 8, 9, 10]) (c66_0)
def c66_2 : AC :=
  .seq (.block 1 (.seq (.region 0 [.mk4 0 (some 12) (.mv (.t 10)) none,
    .mk4 1 (some 13) (.ixaS 1 (.t 8) (.t 10)) none,
    .mk4 2 (some 14) (.load1 (.t 13)) none,
    .mk4 3 (some 6) (.mv (.t 12)) none,
    .mk4 4 (some 7) (.mv (.t 14)) none] [0, 1, 6, 7, 8, 9, 10]) (c66_1))) (.region 0 [.mk4 0 (some 40) (.bin .add (.t 10) (.c (.i 1))) none,
    .mk4 1 (some 10) (.mv (.t 40)) none] [0, 1, 8, 9, 10])
def c66_3 : AC :=
  .region 0 [.mk4 0 (some 41) (.mv (.t 0)) none,
    .mk4 1 (some 42) (.mv (.t 0)) none,
    .mk4 2 (some 43) (.nilck (.t 42)) none,
    .mk4 3 (some 44) (.faddr 288 (.t 43)) none,
    .mk4 4 (some 45) (.load1 (.t 44)) none,
    .mk4 5 (some 46) (.mv (.t 1)) none,
    .mk4 6 (some 47) (.bslice 1 1 [.ptr none] [(0, (.t 46))]) none,
    .mk4 7 (some 48) (.append 1 8 (.t 45) (.t 47)) none,
    .mk4 8 (some 49) (.nilck (.t 41)) none,
    .mk4 9 (some 50) (.faddr 288 (.t 49)) none,
    .mk4 10 none (.store 1 (.t 50) (.t 48)) none] []
def c66_4 : AC :=
  .seq (.seq (.region 0 [.mk4 0 (some 8) (.mv (.t 2)) none,
    .mk4 1 (some 9) (.lenL (.t 8)) none,
    .mk4 2 (some 10) (.mv (.c (.i 0))) none] [0, 1, 8, 9, 10]) (.block 0 (.loop [0, 1, 8, 9, 10] (.seq (.region 0 [.mk4 0 (some 11) (.bin .lss (.t 10) (.t 9)) none] [0, 1, 8, 9, 10, 11]) (.seq (.cond (.t 11) (.skip) (.exit 0)) (c66_2)))))) (c66_3)
def c66 : AFn := ⟨3, 51, [],
  (c66_4)⟩
def c67_0 : AC :=
  .seq (.region 0 [.mk4 0 (some 46) (.mv (.t 0)) none,
    .mk4 1 (some 47) (.nilck (.t 46)) none,
    .mk4 2 (some 48) (.faddr 3 (.t 47)) none,
    .mk4 3 (some 49) (.load1 (.t 48)) none,
    .mk4 4 (some 50) (.mv (.t 1)) none,
    .mk4 5 (some 51) (.lenL (.t 50)) none,
    .mk4 6 (some 52) (.convInt .u64 (.t 51)) none,
    .mk4 7 (some 53) (.bin .add (.t 49) (.t 52)) none,
    .mk4 8 (some 54) (.nilck (.t 46)) none,
    .mk4 9 (some 55) (.faddr 3 (.t 54)) none,
    .mk4 10 none (.store 1 (.t 55) (.t 53)) none] [1]) (.seq (.region 0 [.mk4 0 (some 56) (.mv (.t 1)) none,
    .mk4 1 (some 57) (.lenL (.t 56)) none,
    .mk4 2 (some 4) (.mv (.t 57)) none] [4]) (.ret))
def c67_1 : AC :=
  .region 0 [.mk4 0 (some 32) (.load1 (.t 5)) none,
    .mk4 1 (some 33) (.mv (.t 6)) none,
    .mk4 2 (some 34) (.load1 (.t 5)) none,
    ⟨3, (some 35), .copy 1 (.t 33) (.t 34), none, none, [(32, .load1 (.t 5), none)]⟩,
    .mk4 4 (some 36) (.slice 1 (.t 32) (some (.t 35)) none none) none,
    .mk4 5 none (.store 1 (.t 5) (.t 36)) none] []
def c67_2 : AC :=
  .seq (.region 0 [.mk4 0 (some 37) (.mv (.t 0)) none,
    .mk4 1 (some 38) (.nilck (.t 37)) none,
    .mk4 2 (some 39) (.faddr 2 (.t 38)) none,
    .mk4 3 (some 40) (.load1 (.t 39)) none,
    .mk4 4 (some 41) (.mv (.t 1)) none,
    .mk4 5 (some 42) (.lenL (.t 41)) none,
    .mk4 6 (some 43) (.bin .add (.t 40) (.t 42)) none,
    .mk4 7 (some 44) (.nilck (.t 37)) none,
    .mk4 8 (some 45) (.faddr 2 (.t 44)) none,
    .mk4 9 none (.store 1 (.t 45) (.t 43)) none] [0, 1]) (c67_0)
def c67_3 : AC :=
  .seq (.seq (.region 0 [.mk4 0 (some 18) (.mv (.t 0)) none,
    .mk4 1 (some 19) (.mv (.t 0)) none,
    .mk4 2 (some 20) (.nilck (.t 19)) none,
    .mk4 3 (some 21) (.faddr 1 (.t 20)) none,
    .mk4 4 (some 22) (.load1 (.t 21)) none,
    .mk4 5 (some 23) (.mv (.t 0)) none,
    .mk4 6 (some 24) (.nilck (.t 23)) none,
    .mk4 7 (some 25) (.faddr 2 (.t 24)) none,
    .mk4 8 (some 26) (.load1 (.t 25)) none,
    .mk4 9 (some 27) (.bin .add (.t 22) (.t 26)) none,
    .mk4 10 (some 28) (.mv (.t 1)) none,
    .mk4 11 (some 29) (.lenL (.t 28)) none,
    .mk4 12 (some 30) (.call 75 [(.t 18), (.t 27), (.t 29)]) none] [0, 1, 5, 30]) (.block 0 (.rangeFunc (.t 30) [31] [5] (.region 0 [.mk4 0 (some 6) (.mv (.t 31)) none] [5, 6]) (.block 1 (c67_1))))) (c67_2)
def c67_4 : AC :=
  .seq (.seq (.region 0 [.mk4 0 (some 14) (.mv (.t 1)) none,
    .mk4 1 (some 15) (.lenL (.t 14)) none,
    .mk4 2 (some 16) (.bin .eql (.t 15) (.c (.i 0))) none] [0, 1, 16]) (.cond (.t 16) (.seq (.region 0 [.mk4 0 (some 4) (.mv (.c (.i 0))) none] [4]) (.ret)) (.skip))) (.seq (.region 0 [.mk4 0 (some 17) (.mv (.t 1)) none,
    .mk4 1 (some 5) (.alloc 1 [.nils]) none,
    .mk4 2 none (.store 1 (.t 5) (.t 17)) none] [0, 1, 5]) (c67_3))
def c67_5 : AC :=
  .seq (.region 0 [.mk4 0 (some 7) (.mv (.t 1)) none,
    .mk4 1 (some 8) (.mv (.t 1)) none,
    .mk4 2 (some 9) (.lenL (.t 8)) none,
    .mk4 3 (some 10) (.mv (.t 0)) none,
    .mk4 4 (some 11) (.call 49 [(.t 10)]) none,
    .mk4 5 (some 12) (.minI [(.t 9), (.t 11)]) none,
    .mk4 6 (some 13) (.slice 1 (.t 7) none (some (.t 12)) none) none,
    .mk4 7 (some 1) (.mv (.t 13)) none] [0, 1]) (c67_4)
def c67 : AFn := ⟨2, 58, [.tmp 4],
  (.seq (.region 0 [.mk4 0 (some 4) (.mv (.c (.i 0))) none] [0, 1]) (c67_5))⟩
def c68_0 : AC :=
  .region 0 [.mk4 0 (some 37) (.mv (.t 0)) none,
    .mk4 1 (some 38) (.nilck (.t 37)) none,
    .mk4 2 (some 39) (.faddr 4 (.t 38)) none,
    .mk4 3 (some 40) (.load1 (.t 39)) none,
    .mk4 4 (some 41) (.mv (.t 5)) none,
    .mk4 5 (some 42) (.lenL (.t 41)) none,
    .mk4 6 (some 43) (.convInt .u64 (.t 42)) none,
    .mk4 7 (some 44) (.bin .add (.t 40) (.t 43)) none,
    .mk4 8 (some 45) (.nilck (.t 37)) none,
    .mk4 9 (some 46) (.faddr 4 (.t 45)) none,
    .mk4 10 none (.store 1 (.t 46) (.t 44)) none] [5]
def c68_1 : AC :=
  .seq (.region 0 [.mk4 0 (some 28) (.mv (.t 0)) none,
    .mk4 1 (some 29) (.nilck (.t 28)) none,
    .mk4 2 (some 30) (.faddr 2 (.t 29)) none,
    .mk4 3 (some 31) (.load1 (.t 30)) none,
    .mk4 4 (some 32) (.mv (.t 5)) none,
    .mk4 5 (some 33) (.lenL (.t 32)) none,
    .mk4 6 (some 34) (.bin .sub (.t 31) (.t 33)) none,
    .mk4 7 (some 35) (.nilck (.t 28)) none,
    .mk4 8 (some 36) (.faddr 2 (.t 35)) none,
    .mk4 9 none (.store 1 (.t 36) (.t 34)) none] [0, 5]) (c68_0)
def c68_2 : AC :=
  .seq (.region 0 [.mk4 0 (some 12) (.mv (.t 0)) none,
    .mk4 1 (some 13) (.mv (.t 0)) none,
    .mk4 2 (some 14) (.nilck (.t 13)) none,
    .mk4 3 (some 15) (.faddr 1 (.t 14)) none,
    .mk4 4 (some 16) (.load1 (.t 15)) none,
    .mk4 5 (some 17) (.mv (.t 5)) none,
    .mk4 6 (some 18) (.lenL (.t 17)) none,
    .mk4 7 (some 19) (.bin .add (.t 16) (.t 18)) none,
    .mk4 8 (some 20) (.mv (.t 0)) none,
    .mk4 9 (some 21) (.nilck (.t 20)) none,
    .mk4 10 (some 22) (.faddr 0 (.t 21)) none,
    .mk4 11 (some 23) (.load1 (.t 22)) none,
    .mk4 12 (some 24) (.lenL (.t 23)) none,
    .mk4 13 (some 25) (.bin .rem (.t 19) (.t 24)) none,
    .mk4 14 (some 26) (.nilck (.t 12)) none,
    .mk4 15 (some 27) (.faddr 1 (.t 26)) none,
    .mk4 16 none (.store 1 (.t 27) (.t 25)) none] [0, 5]) (c68_1)
def c68_3 : AC :=
  .seq (.seq (.region 0 [.mk4 0 (some 9) (.mv (.t 5)) none,
    .mk4 1 (some 10) (.lenL (.t 9)) none,
    .mk4 2 (some 11) (.bin .gtr (.t 10) (.c (.i 0))) none] [0, 5, 11]) (.cond (.t 11) (c68_2) (.skip))) (.seq (.region 0 [.mk4 0 (some 47) (.mv (.t 5)) none,
    .mk4 1 (some 4) (.mv (.t 47)) none] [4]) (.ret))
def c68 : AFn := ⟨2, 48, [.tmp 4],
  (.seq (.region 0 [.mk4 0 (some 4) (.mv (.c (.nils))) none] [0, 1]) (.seq (.region 0 [.mk4 0 (some 6) (.mv (.t 0)) none,
    .mk4 1 (some 7) (.mv (.t 1)) none,
    .mk4 2 (some 8) (.call 76 [(.t 6), (.t 7)]) none,
    .mk4 3 (some 5) (.mv (.t 8)) none] [0, 5]) (c68_3)))⟩
def c69_0 : AC :=
  .seq (.region 0 [.mk4 0 (some 3) (.mv (.t 0)) none,
    .mk4 1 (some 4) (.eq .ptr false (.t 3) (.c (.ptr none))) none,
    .mk4 2 (some 5) (.mv (.t 4)) none,
    .mk4 3 (some 6) (.mv (.t 0)) (some (5, false)),
    .mk4 4 (some 7) (.nilck (.t 6)) (some (5, false)),
    .mk4 5 (some 8) (.faddr 5 (.t 7)) (some (5, false)),
    .mk4 6 (some 9) (.load1 (.t 8)) (some (5, false)),
    .mk4 7 (some 10) (.un .not (.t 9)) (some (5, false)),
    .mk4 8 (some 11) (.pick (.t 5) (.c (.bool true)) (.t 10)) none,
    .mk4 9 (some 2) (.mv (.t 11)) none] [2]) (.ret)
def c69 : AFn := ⟨1, 12, [.tmp 2],
  (.seq (.region 0 [.mk4 0 (some 2) (.mv (.c (.bool false))) none] [0]) (c69_0))⟩
def c74 : AFn := ⟨1, 4, [.tmp 2],
  (.seq (.region 0 [.mk4 0 (some 1) (.box 1 (.t 0)) none,
    .mk4 1 (some 2) (.mv (.c (.nilfn))) none] [1]) (.seq (.region 0 [.mk4 0 (some 3) (.mkClo 80 [(.t 1)]) none,
    .mk4 1 (some 2) (.mv (.t 3)) none] [2]) (.ret)))⟩
def c75_0 : AC :=
  .seq (.region 0 [.mk4 0 (some 3) (.box 1 (.t 0)) none,
    .mk4 1 (some 4) (.box 1 (.t 1)) none,
    .mk4 2 (some 5) (.box 1 (.t 2)) none,
    .mk4 3 (some 6) (.mv (.c (.nilfn))) none] [3, 4, 5]) (.seq (.region 0 [.mk4 0 (some 7) (.mkClo 81 [(.t 5), (.t 4), (.t 3)]) none,
    .mk4 1 (some 6) (.mv (.t 7)) none] [6]) (.ret))
def c75 : AFn := ⟨3, 8, [.tmp 6],
  (c75_0)⟩
def c76_0 : AC :=
  .block 0 (.rangeFunc (.t 19) [20] [5] (.region 0 [.mk4 0 (some 6) (.mv (.t 20)) none] [5, 6]) (.block 1 (.region 0 [.mk4 0 (some 21) (.load1 (.t 5)) none,
    .mk4 1 (some 22) (.mv (.t 6)) none,
    .mk4 2 (some 23) (.append 1 1 (.t 21) (.t 22)) none,
    .mk4 3 none (.store 1 (.t 5) (.t 23)) none] [])))
def c76_1 : AC :=
  .seq (.region 0 [.mk4 0 (some 13) (.mv (.t 0)) none,
    .mk4 1 (some 14) (.mv (.t 0)) none,
    .mk4 2 (some 15) (.nilck (.t 14)) none,
    .mk4 3 (some 16) (.faddr 1 (.t 15)) none,
    .mk4 4 (some 17) (.load1 (.t 16)) none,
    .mk4 5 (some 18) (.mv (.t 1)) none,
    .mk4 6 (some 19) (.call 75 [(.t 13), (.t 17), (.t 18)]) none] [5, 19]) (c76_0)
def c76_2 : AC :=
  .seq (.seq (.region 0 [.mk4 0 (some 7) (.mv (.t 1)) none,
    .mk4 1 (some 8) (.mv (.t 0)) none,
    .mk4 2 (some 9) (.call 48 [(.t 8)]) none,
    .mk4 3 (some 10) (.minI [(.t 7), (.t 9)]) none,
    .mk4 4 (some 1) (.mv (.t 10)) none] [0, 1, 5]) (.seq (.region 0 [.mk4 0 (some 11) (.mv (.t 1)) none,
    .mk4 1 (some 12) (.bin .gtr (.t 11) (.c (.i 0))) none] [0, 1, 5, 12]) (.cond (.t 12) (c76_1) (.skip)))) (.seq (.region 0 [.mk4 0 (some 24) (.load1 (.t 5)) none,
    .mk4 1 (some 4) (.mv (.t 24)) none] [4]) (.ret))
def c76 : AFn := ⟨2, 25, [.tmp 4],
  (.seq (.region 0 [.mk4 0 (some 4) (.mv (.c (.nils))) none] [0, 1]) (.seq (.region 0 [.mk4 0 (some 5) (.alloc 1 [.nils]) none] [0, 1, 5]) (c76_2)))⟩
def c80_0 : AC :=
  .seq (.region 0 [.mk4 0 (some 13) (.faddr 0 (.t 4)) none,
    .mk4 1 (some 14) (.load1 (.t 13)) none,
    .mk4 2 (some 15) (.un .not (.t 14)) none,
    .mk4 3 (some 16) (.mv (.t 15)) none,
    .mk4 4 (some 17) (.mv (.t 0)) (some (16, true)),
    .mk4 5 (some 18) (.mv (.t 3)) (some (16, true)),
    .mk4 6 (some 19) (.callv (.t 17) [(.t 18)]) (some (16, true)),
    .mk4 7 (some 20) (.un .not (.t 19)) (some (16, true)),
    .mk4 8 (some 21) (.pick (.t 16) (.t 20) (.c (.bool false))) none] [0, 8, 9, 21]) (.cond (.t 21) (.ret) (.skip))
def c80_1 : AC :=
  .seq (.block 1 (.seq (.region 0 [.mk4 0 (some 11) (.mv (.t 9)) none,
    .mk4 1 (some 12) (.ixA 96 3 (some 3) (.t 8) (.t 9)) none,
    .mk4 2 (some 4) (.alloc 3 [.bool false, .i 0, .i 0]) none,
    .mk4 3 (some 3) (.mv (.t 11)) none,
    .mk4 4 none (.store 3 (.t 4) (.t 12)) none] [0, 3, 4, 8, 9]) (c80_0))) (.region 0 [.mk4 0 (some 22) (.bin .add (.t 9) (.c (.i 1))) none,
    .mk4 1 (some 9) (.mv (.t 22)) none] [0, 8, 9])
def c80_2 : AC :=
  .seq (.region 0 [.mk4 0 (some 5) (.load1 (.t 1)) none,
    .mk4 1 (some 6) (.nilck (.t 5)) none,
    .mk4 2 (some 7) (.faddr 0 (.t 6)) none,
    .mk4 3 (some 8) (.loadN 288 (.t 7)) none,
    .mk4 4 (some 9) (.mv (.c (.i 0))) none] [0, 8, 9]) (.block 0 (.loop [0, 8, 9] (.seq (.region 0 [.mk4 0 (some 10) (.bin .lss (.t 9) (.c (.i 96))) none] [0, 8, 9, 10]) (.seq (.cond (.t 10) (.skip) (.exit 0)) (c80_1)))))
def c80 : AFn := ⟨2, 23, [],
  (c80_2)⟩
def c81_0 : AC :=
  .seq (.region 0 [.mk4 0 (some 35) (.load1 (.t 2)) none,
    .mk4 1 (some 36) (.mv (.t 6)) none,
    .mk4 2 (some 37) (.lenL (.t 36)) none,
    .mk4 3 (some 38) (.bin .add (.t 35) (.t 37)) none,
    .mk4 4 none (.store 1 (.t 2) (.t 38)) none] [0, 1, 2, 3, 6]) (.region 0 [.mk4 0 (some 39) (.load1 (.t 1)) none,
    .mk4 1 (some 40) (.mv (.t 6)) none,
    .mk4 2 (some 41) (.lenL (.t 40)) none,
    .mk4 3 (some 42) (.bin .sub (.t 39) (.t 41)) none,
    .mk4 4 none (.store 1 (.t 1) (.t 42)) none] [0, 1, 2, 3])
def c81_1 : AC :=
  .seq (.region 0 [.mk4 0 (some 16) (.load1 (.t 3)) none,
    .mk4 1 (some 17) (.nilck (.t 16)) none,
    .mk4 2 (some 18) (.faddr 0 (.t 17)) none,
    .mk4 3 (some 19) (.load1 (.t 18)) none,
    .mk4 4 (some 20) (.mv (.t 5)) none,
    .mk4 5 (some 21) (.mv (.t 5)) none,
    .mk4 6 (some 22) (.load1 (.t 1)) none,
    .mk4 7 (some 23) (.bin .add (.t 21) (.t 22)) none,
    .mk4 8 (some 24) (.load1 (.t 3)) none,
    .mk4 9 (some 25) (.nilck (.t 24)) none,
    .mk4 10 (some 26) (.faddr 0 (.t 25)) none,
    .mk4 11 (some 27) (.load1 (.t 26)) none,
    .mk4 12 (some 28) (.lenL (.t 27)) none,
    .mk4 13 (some 29) (.minI [(.t 23), (.t 28)]) none,
    .mk4 14 (some 30) (.slice 1 (.t 19) (some (.t 20)) (some (.t 29)) none) none,
    .mk4 15 (some 6) (.mv (.t 30)) none] [0, 1, 2, 3, 6]) (.seq (.seq (.region 0 [.mk4 0 (some 31) (.mv (.t 0)) none,
    .mk4 1 (some 32) (.mv (.t 6)) none,
    .mk4 2 (some 33) (.callv (.t 31) [(.t 32)]) none,
    .mk4 3 (some 34) (.un .not (.t 33)) none] [0, 1, 2, 3, 6, 34]) (.cond (.t 34) (.exit 0) (.skip))) (c81_0))
def c81_2 : AC :=
  .seq (.region 0 [.mk4 0 (some 9) (.load1 (.t 2)) none,
    .mk4 1 (some 10) (.load1 (.t 3)) none,
    .mk4 2 (some 11) (.nilck (.t 10)) none,
    .mk4 3 (some 12) (.faddr 0 (.t 11)) none,
    .mk4 4 (some 13) (.load1 (.t 12)) none,
    .mk4 5 (some 14) (.lenL (.t 13)) none,
    .mk4 6 (some 15) (.bin .rem (.t 9) (.t 14)) none,
    .mk4 7 (some 5) (.mv (.t 15)) none] [0, 1, 2, 3, 5]) (c81_1)
def c81 : AFn := ⟨4, 43, [],
  (.scope (.seq (.label 0) (.block 0 (.loop [0, 1, 2, 3] (.seq (.seq (.region 0 [.mk4 0 (some 7) (.load1 (.t 1)) none,
    .mk4 1 (some 8) (.bin .gtr (.t 7) (.c (.i 0))) none] [0, 1, 2, 3, 8]) (.cond (.t 8) (.skip) (.exit 0))) (.block 1 (c81_2)))))))⟩
def prog : Prog := { fns := [(4, c4), (5, c5), (16, c16), (17, c17), (18, c18), (19, c19), (20, c20), (21, c21), (22, c22), (23, c23), (24, c24), (25, c25), (26, c26), (36, c36), (40, c40), (41, c41), (42, c42), (43, c43), (44, c44), (45, c45), (46, c46), (47, c47), (48, c48), (49, c49), (59, c59), (60, c60), (63, c63), (64, c64), (65, c65), (66, c66), (67, c67), (68, c68), (69, c69), (74, c74), (75, c75), (76, c76), (80, c80), (81, c81)], prims := [] }
def cx : Cx := ⟨[(3, ⟨.int .i64, 1, 8, (some (.i 0)), false⟩),
  (4, ⟨.bool, 1, 1, (some (.bool false)), false⟩),
  (5, ⟨.int .u8, 1, 1, (some (.int .u8 0)), false⟩),
  (9, ⟨.str, 1, 16, (some (.str [])), false⟩),
  (22, ⟨.ptr 77, 1, 8, (some (.ptr none)), false⟩),
  (24, ⟨.int .i64, 1, 8, (some (.i 0)), false⟩),
  (26, ⟨.slice 3, 1, 24, (some (.nils)), false⟩),
  (39, ⟨.slice 5, 1, 24, (some (.nils)), false⟩),
  (45, ⟨.int .u64, 1, 8, (some (.int .u64 0)), false⟩),
  (47, ⟨.struct [(0, 4), (1, 4), (2, 4), (3, 4), (4, 4), (5, 45), (6, 45)], 7, 24, (some (.agg [.bool false, .bool false, .bool false, .bool false, .bool false, .int .u64 0, .int .u64 0])), false⟩),
  (50, ⟨.slice 54, 1, 24, (some (.nils)), false⟩),
  (52, ⟨.array 4 9, 4, 64, (some (.agg [.str [], .str [], .str [], .str []])), false⟩),
  (54, ⟨.struct [(0, 3), (1, 3), (2, 3), (3, 45), (4, 39)], 5, 56, (some (.agg [.i 0, .i 0, .i 0, .int .u64 0, .nils])), false⟩),
  (69, ⟨.struct [(0, 4), (1, 3), (2, 3)], 3, 24, (some (.agg [.bool false, .i 0, .i 0])), false⟩),
  (70, ⟨.ptr 84, 1, 8, (some (.ptr none)), false⟩),
  (73, ⟨.array 96 69, 288, 2304, (some (.agg ((List.replicate 96 ([.bool false, .i 0, .i 0] : List V)).flatten))), false⟩),
  (74, ⟨.slice 70, 1, 24, (some (.nils)), false⟩),
  (75, ⟨.ptr 111, 1, 8, (some (.ptr none)), false⟩),
  (77, ⟨.struct [(0, 73), (288, 74), (289, 75), (290, 45), (291, 69)], 294, 2368, (some (.agg ((List.replicate 96 ([.bool false, .i 0, .i 0] : List V)).flatten ++ [.nils, .ptr none, .int .u64 0, .bool false, .i 0, .i 0]))), false⟩),
  (79, ⟨.ptr 120, 1, 8, (some (.ptr none)), false⟩),
  (81, ⟨.struct [(0, 3), (1, 3), (2, 79), (3, 4), (4, 4), (5, 45), (6, 45)], 7, 48, (some (.agg [.i 0, .i 0, .ptr none, .bool false, .bool false, .int .u64 0, .int .u64 0])), false⟩),
  (82, ⟨.array 2 81, 14, 96, (some (.agg [.i 0, .i 0, .ptr none, .bool false, .bool false, .int .u64 0, .int .u64 0, .i 0, .i 0, .ptr none, .bool false, .bool false, .int .u64 0, .int .u64 0])), false⟩),
  (84, ⟨.struct [(0, 82), (14, 4), (15, 3), (16, 26)], 17, 136, (some (.agg [.i 0, .i 0, .ptr none, .bool false, .bool false, .int .u64 0, .int .u64 0, .i 0, .i 0, .ptr none, .bool false, .bool false, .int .u64 0, .int .u64 0, .bool false, .i 0, .nils])), false⟩),
  (108, ⟨.array 32 4, 32, 32, (some (.agg (List.replicate 32 (.bool false : V)))), false⟩),
  (109, ⟨.array 32 3, 32, 256, (some (.agg (List.replicate 32 (.i 0 : V)))), false⟩),
  (111, ⟨.struct [(0, 108), (32, 109)], 64, 288, (some (.agg (List.replicate 32 (.bool false : V) ++ List.replicate 32 (.i 0 : V)))), false⟩),
  (120, ⟨.struct [(0, 39), (1, 3), (2, 3), (3, 45), (4, 45), (5, 4)], 6, 64, (some (.agg [.nils, .i 0, .i 0, .int .u64 0, .int .u64 0, .bool false])), false⟩)], []⟩
namespace F
abbrev roundhouselaw11_WorldEnds : Nat := 4
abbrev roundhouselaw11_WorldBytes : Nat := 5
abbrev roundhouselaw11_alive : Nat := 16
abbrev world_New : Nat := 17
abbrev world_World_Outer : Nat := 18
abbrev world_World_Put : Nat := 19
abbrev world_World_PeerShut : Nat := 20
abbrev world_World_Read : Nat := 21
abbrev world_World_Ready : Nat := 22
abbrev world_World_Write : Nat := 23
abbrev roundhouselaw11_Great : Nat := 24
abbrev world_World_Pair : Nat := 25
abbrev world_World_Take : Nat := 26
abbrev world_World_find : Nat := 36
abbrev sigs_New : Nat := 40
abbrev world_both : Nat := 41
abbrev world_World_make : Nat := 42
abbrev world_World_outer : Nat := 43
abbrev world_wire_put : Nat := 44
abbrev world_wire_shut : Nat := 45
abbrev world_wire_take : Nat := 46
abbrev world_wire_silent : Nat := 47
abbrev ring_Ring_Len : Nat := 48
abbrev ring_Ring_Room : Nat := 49
abbrev world_World_none : Nat := 59
abbrev world_wire_came : Nat := 60
abbrev ring_New : Nat := 63
abbrev world_capacity : Nat := 64
abbrev world_World_numbers : Nat := 65
abbrev world_World_open : Nat := 66
abbrev ring_Ring_Put : Nat := 67
abbrev ring_Ring_Take : Nat := 68
abbrev ring_Ring_none : Nat := 69
abbrev world_World_free : Nat := 74
abbrev ring_Ring_pieces : Nat := 75
abbrev ring_Ring_Look : Nat := 76
abbrev world_World_free_1 : Nat := 80
abbrev ring_Ring_pieces_1 : Nat := 81
end F
end Am.Sigs
