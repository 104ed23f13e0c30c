/- The code of SelNames, as the abstract machine takes it: printed by a program. -/
import Derived.Test.YtpbepbijgldagaaMatch
set_option maxRecDepth 100000
namespace Am.SelNames
open Am Go
def c6_0 : AC :=
  .seq (.region 0 [.mk4 0 (some 76) (.call 30 []) none,
    .mk4 1 (some 77) (.mv (.t 76)) none,
    .mk4 2 (some 78) (.pick (.t 77) (.c (.bool true)) (.c (.bool false))) none,
    .mk4 3 (some 79) (.mv (.t 78)) none,
    .mk4 4 (some 80) (.mv (.t 5)) (some (79, true)),
    .mk4 5 (some 81) (.bin .eql (.t 80) (.c (.i 110))) (some (79, true)),
    .mk4 6 (some 82) (.pick (.t 79) (.t 81) (.c (.bool false))) none,
    .mk4 7 (some 83) (.mv (.t 82)) none,
    .mk4 8 (some 84) (.mv (.t 9)) (some (83, true)),
    .mk4 9 (some 85) (.bin .eql (.t 84) (.c (.i 0))) (some (83, true)),
    .mk4 10 (some 86) (.pick (.t 83) (.t 85) (.c (.bool false))) none,
    .mk4 11 (some 87) (.mv (.t 86)) none,
    .mk4 12 (some 88) (.mv (.t 8)) (some (87, true)),
    .mk4 13 (some 89) (.bin .eql (.t 88) (.c (.i 1))) (some (87, true)),
    .mk4 14 (some 90) (.pick (.t 87) (.t 89) (.c (.bool false))) none,
    .mk4 15 (some 91) (.mv (.t 90)) none,
    .mk4 16 (some 92) (.loadN 2 (.t 6)) (some (91, true)),
    .mk4 17 (some 93) (.call 31 [(.t 92), (.c (.i 0))]) (some (91, true)),
    .mk4 18 (some 94) (.pick (.t 91) (.t 93) (.c (.bool false))) none,
    .mk4 19 (some 95) (.mv (.t 94)) none,
    .mk4 20 (some 96) (.loadN 2 (.t 6)) (some (95, true)),
    .mk4 21 (some 97) (.call 32 [(.t 96)]) (some (95, true)),
    .mk4 22 (some 98) (.bin .eql (.t 97) (.c (.i 1))) (some (95, true)),
    .mk4 23 (some 99) (.pick (.t 95) (.t 98) (.c (.bool false))) none,
    .mk4 24 (some 100) (.mv (.t 99)) none,
    .mk4 25 (some 101) (.loadN 2 (.t 7)) (some (100, true)),
    .mk4 26 (some 102) (.call 32 [(.t 101)]) (some (100, true)),
    .mk4 27 (some 103) (.bin .eql (.t 102) (.c (.i 0))) (some (100, true)),
    .mk4 28 (some 104) (.pick (.t 100) (.t 103) (.c (.bool false))) none,
    .mk4 29 (some 105) (.mv (.t 104)) none,
    .mk4 30 (some 106) (.mv (.t 13)) (some (105, true)),
    .mk4 31 (some 107) (.bin .eql (.t 106) (.c (.i 2))) (some (105, true)),
    .mk4 32 (some 108) (.pick (.t 105) (.t 107) (.c (.bool false))) none,
    .mk4 33 (some 109) (.mv (.t 108)) none,
    .mk4 34 (some 110) (.mv (.t 17)) (some (109, true)),
    .mk4 35 (some 111) (.bin .eql (.t 110) (.c (.i 1))) (some (109, true)),
    .mk4 36 (some 112) (.pick (.t 109) (.t 111) (.c (.bool false))) none,
    .mk4 37 (some 113) (.mv (.t 112)) none,
    .mk4 38 (some 114) (.mv (.t 21)) (some (113, true)),
    .mk4 39 (some 115) (.bin .eql (.t 114) (.c (.i 2))) (some (113, true)),
    .mk4 40 (some 116) (.pick (.t 113) (.t 115) (.c (.bool false))) none,
    .mk4 41 (some 117) (.mv (.t 116)) none,
    .mk4 42 (some 118) (.bslice 1 2 [.i 0, .i 0] [(0, (.c (.i 0))), (1, (.c (.i 2)))]) (some (117, true)),
    .mk4 43 (some 119) (.call 29 [(.t 118)]) (some (117, true)),
    .mk4 44 (some 120) (.bslice 1 1 [.i 0] [(0, (.c (.i 1)))]) (some (117, true)),
    .mk4 45 (some 121) (.call 29 [(.t 120)]) (some (117, true)),
    .mk4 46 (some 122) (.call 33 [(.t 119), (.t 121)]) (some (117, true)),
    .mk4 47 (some 123) (.bin .eql (.t 122) (.c (.i 3))) (some (117, true)),
    .mk4 48 (some 124) (.pick (.t 117) (.t 123) (.c (.bool false))) none,
    .mk4 49 (some 125) (.mv (.t 124)) none,
    .mk4 50 (some 126) (.call 29 [(.c (.nils))]) (some (125, true)),
    .mk4 51 (some 127) (.call 29 [(.c (.nils))]) (some (125, true)),
    .mk4 52 (some 128) (.call 33 [(.t 126), (.t 127)]) (some (125, true)),
    .mk4 53 (some 129) (.bin .eql (.t 128) (.c (.i 0))) (some (125, true)),
    .mk4 54 (some 130) (.pick (.t 125) (.t 129) (.c (.bool false))) none,
    .mk4 55 (some 131) (.mv (.t 130)) none,
    .mk4 56 (some 132) (.mv (.t 1)) (some (131, true)),
    .mk4 57 (some 133) (.bslice 1 1 [.i 0] [(0, (.c (.i 0)))]) (some (131, true)),
    .mk4 58 (some 134) (.call 29 [(.t 133)]) (some (131, true)),
    .mk4 59 (some 135) (.call 29 [(.c (.nils))]) (some (131, true)),
    .mk4 60 (some 136) (.call 34 [(.t 132), (.c (.i 1)), (.t 134), (.t 135)]) (some (131, true)),
    .mk4 61 (some 137) (.pick (.t 131) (.t 136) (.c (.bool false))) none,
    .mk4 62 (some 138) (.mv (.t 137)) none,
    .mk4 63 (some 139) (.call 27 []) (some (138, true)),
    .mk4 64 (some 140) (.bslice 1 1 [.i 0] [(0, (.c (.i 0)))]) (some (138, true)),
    .mk4 65 (some 141) (.call 29 [(.t 140)]) (some (138, true)),
    .mk4 66 (some 142) (.call 29 [(.c (.nils))]) (some (138, true)),
    .mk4 67 (some 143) (.call 34 [(.t 139), (.c (.i 1)), (.t 141), (.t 142)]) (some (138, true)),
    .mk4 68 (some 144) (.un .not (.t 143)) (some (138, true)),
    .mk4 69 (some 145) (.pick (.t 138) (.t 144) (.c (.bool false))) none,
    .mk4 70 (some 0) (.mv (.t 145)) none] [0]) (.ret)
def c6_1 : AC :=
  .seq (.region 0 [.mk4 0 (some 67) (.mv (.t 1)) none,
    .mk4 1 (some 68) (.bslice 1 1 [.i 0] [(0, (.c (.i 0)))]) none,
    .mk4 2 (some 69) (.call 29 [(.t 68)]) none,
    .mk4 3 (some 70) (.call 29 [(.c (.nils))]) none,
    .mk4 4 (some 71) (.call 28 [(.t 67), (.c (.i (-1))), (.t 69), (.t 70)]) none,
    .mk4 5 (some 66) (.mv (.t 71)) none,
    .mk4 6 (some 72) (.extract (.t 66) 0) none,
    .mk4 7 (some 73) (.extract (.t 66) 1) none,
    .mk4 8 (some 74) (.extract (.t 66) 2) none,
    .mk4 9 (some 75) (.extract (.t 66) 3) none,
    .mk4 10 (some 18) (.alloc 2 [.int .u32 0, .int .u32 0]) none,
    .mk4 11 (some 19) (.alloc 2 [.int .u32 0, .int .u32 0]) none,
    .mk4 12 none (.store 2 (.t 18) (.t 72)) none,
    .mk4 13 none (.store 2 (.t 19) (.t 73)) none,
    .mk4 14 (some 20) (.mv (.t 74)) none,
    .mk4 15 (some 21) (.mv (.t 75)) none] [1, 5, 6, 7, 8, 9, 13, 17, 21]) (c6_0)
def c6_2 : AC :=
  .seq (.region 0 [.mk4 0 (some 58) (.bslice 1 1 [.i 0] [(0, (.c (.i 0)))]) none,
    .mk4 1 (some 59) (.call 29 [(.t 58)]) none,
    .mk4 2 (some 60) (.call 29 [(.c (.nils))]) none,
    .mk4 3 (some 61) (.call 28 [(.c (.ptr none)), (.c (.i 1)), (.t 59), (.t 60)]) none,
    .mk4 4 (some 57) (.mv (.t 61)) none,
    .mk4 5 (some 62) (.extract (.t 57) 0) none,
    .mk4 6 (some 63) (.extract (.t 57) 1) none,
    .mk4 7 (some 64) (.extract (.t 57) 2) none,
    .mk4 8 (some 65) (.extract (.t 57) 3) none,
    .mk4 9 (some 14) (.alloc 2 [.int .u32 0, .int .u32 0]) none,
    .mk4 10 (some 15) (.alloc 2 [.int .u32 0, .int .u32 0]) none,
    .mk4 11 none (.store 2 (.t 14) (.t 62)) none,
    .mk4 12 none (.store 2 (.t 15) (.t 63)) none,
    .mk4 13 (some 16) (.mv (.t 64)) none,
    .mk4 14 (some 17) (.mv (.t 65)) none] [1, 5, 6, 7, 8, 9, 13, 17]) (c6_1)
def c6_3 : AC :=
  .seq (.region 0 [.mk4 0 (some 48) (.mv (.t 1)) none,
    .mk4 1 (some 49) (.bslice 1 1 [.i 0] [(0, (.c (.i 0)))]) none,
    .mk4 2 (some 50) (.call 29 [(.t 49)]) none,
    .mk4 3 (some 51) (.call 29 [(.c (.nils))]) none,
    .mk4 4 (some 52) (.call 28 [(.t 48), (.c (.i 65)), (.t 50), (.t 51)]) none,
    .mk4 5 (some 47) (.mv (.t 52)) none,
    .mk4 6 (some 53) (.extract (.t 47) 0) none,
    .mk4 7 (some 54) (.extract (.t 47) 1) none,
    .mk4 8 (some 55) (.extract (.t 47) 2) none,
    .mk4 9 (some 56) (.extract (.t 47) 3) none,
    .mk4 10 (some 10) (.alloc 2 [.int .u32 0, .int .u32 0]) none,
    .mk4 11 (some 11) (.alloc 2 [.int .u32 0, .int .u32 0]) none,
    .mk4 12 none (.store 2 (.t 10) (.t 53)) none,
    .mk4 13 none (.store 2 (.t 11) (.t 54)) none,
    .mk4 14 (some 12) (.mv (.t 55)) none,
    .mk4 15 (some 13) (.mv (.t 56)) none] [1, 5, 6, 7, 8, 9, 13]) (c6_2)
def c6_4 : AC :=
  .seq (.region 0 [.mk4 0 (some 37) (.mv (.t 1)) none,
    .mk4 1 (some 38) (.bslice 1 2 [.i 0, .i 0] [(0, (.c (.i 0))), (1, (.c (.i 2)))]) none,
    .mk4 2 (some 39) (.call 29 [(.t 38)]) none,
    .mk4 3 (some 40) (.bslice 1 2 [.i 0, .i 0] [(0, (.c (.i 1))), (1, (.c (.i 2)))]) none,
    .mk4 4 (some 41) (.call 29 [(.t 40)]) none,
    .mk4 5 (some 42) (.call 28 [(.t 37), (.c (.i 1)), (.t 39), (.t 41)]) none,
    .mk4 6 (some 36) (.mv (.t 42)) none,
    .mk4 7 (some 43) (.extract (.t 36) 0) none,
    .mk4 8 (some 44) (.extract (.t 36) 1) none,
    .mk4 9 (some 45) (.extract (.t 36) 2) none,
    .mk4 10 (some 46) (.extract (.t 36) 3) none,
    .mk4 11 (some 6) (.alloc 2 [.int .u32 0, .int .u32 0]) none,
    .mk4 12 (some 7) (.alloc 2 [.int .u32 0, .int .u32 0]) none,
    .mk4 13 none (.store 2 (.t 6) (.t 43)) none,
    .mk4 14 none (.store 2 (.t 7) (.t 44)) none,
    .mk4 15 (some 8) (.mv (.t 45)) none,
    .mk4 16 (some 9) (.mv (.t 46)) none] [1, 5, 6, 7, 8, 9]) (c6_3)
def c6_5 : AC :=
  .seq (.region 0 [.mk4 0 (some 26) (.mv (.t 1)) none,
    .mk4 1 (some 27) (.bslice 1 2 [.i 0, .i 0] [(0, (.c (.i 0))), (1, (.c (.i 2)))]) none,
    .mk4 2 (some 28) (.call 29 [(.t 27)]) none,
    .mk4 3 (some 29) (.bslice 1 2 [.i 0, .i 0] [(0, (.c (.i 1))), (1, (.c (.i 2)))]) none,
    .mk4 4 (some 30) (.call 29 [(.t 29)]) none,
    .mk4 5 (some 31) (.call 28 [(.t 26), (.c (.i 3)), (.t 28), (.t 30)]) none,
    .mk4 6 (some 25) (.mv (.t 31)) none,
    .mk4 7 (some 32) (.extract (.t 25) 0) none,
    .mk4 8 (some 33) (.extract (.t 25) 1) none,
    .mk4 9 (some 34) (.extract (.t 25) 2) none,
    .mk4 10 (some 35) (.extract (.t 25) 3) none,
    .mk4 11 (some 2) (.alloc 2 [.int .u32 0, .int .u32 0]) none,
    .mk4 12 (some 3) (.alloc 2 [.int .u32 0, .int .u32 0]) none,
    .mk4 13 none (.store 2 (.t 2) (.t 32)) none,
    .mk4 14 none (.store 2 (.t 3) (.t 33)) none,
    .mk4 15 (some 4) (.mv (.t 34)) none,
    .mk4 16 (some 5) (.mv (.t 35)) none] [1, 5]) (c6_4)
def c6 : AFn := ⟨0, 146, [.tmp 0],
  (.seq (.region 0 [.mk4 0 (some 0) (.mv (.c (.bool false))) none] []) (.seq (.region 0 [.mk4 0 (some 22) (.call 27 []) none,
    .mk4 1 (some 1) (.mv (.t 22)) none] [1]) (.seq (.region 0 [.mk4 0 (some 23) (.mv (.t 1)) none,
    .mk4 1 (some 24) (.call 8 [(.t 23), (.c (.i 1))]) none] [1]) (c6_5))))⟩
def c8_0 : AC :=
  .region 0 [.mk4 0 (some 39) (.mv (.t 0)) none,
    .mk4 1 (some 40) (.nilck (.t 39)) none,
    .mk4 2 (some 41) (.faddr 288 (.t 40)) none,
    .mk4 3 (some 42) (.load1 (.t 41)) none,
    .mk4 4 (some 43) (.mv (.t 9)) none,
    .mk4 5 (some 44) (.ixaS 1 (.t 42) (.t 43)) none,
    .mk4 6 (some 45) (.load1 (.t 44)) none,
    .mk4 7 (some 46) (.call 37 [(.t 45), (.c (.i 0))]) none] [0, 6, 33, 34, 35]
def c8_1 : AC :=
  .seq (.block 1 (.seq (.region 0 [.mk4 0 (some 37) (.ixaS 1 (.t 33) (.t 35)) none,
    .mk4 1 (some 38) (.load1 (.t 37)) none,
    .mk4 2 (some 9) (.mv (.t 38)) none] [0, 6, 9, 33, 34, 35]) (c8_0))) (.region 0 [.mk4 0 (some 47) (.bin .add (.t 35) (.c (.i 1))) none,
    .mk4 1 (some 35) (.mv (.t 47)) none] [0, 6, 33, 34, 35])
def c8_2 : AC :=
  .seq (.seq (.region 0 [.mk4 0 (some 30) (.mv (.t 6)) none,
    .mk4 1 (some 31) (.nilck (.t 30)) none,
    .mk4 2 (some 32) (.faddr 16 (.t 31)) none,
    .mk4 3 (some 33) (.load1 (.t 32)) none,
    .mk4 4 (some 34) (.lenL (.t 33)) none,
    .mk4 5 (some 35) (.mv (.c (.i 0))) none] [0, 6, 33, 34, 35]) (.block 0 (.loop [0, 6, 33, 34, 35] (.seq (.region 0 [.mk4 0 (some 36) (.bin .lss (.t 35) (.t 34)) none] [0, 6, 33, 34, 35, 36]) (.seq (.cond (.t 36) (.skip) (.exit 0)) (c8_1)))))) (.seq (.region 0 [.mk4 0 (some 48) (.mv (.t 6)) none,
    .mk4 1 (some 49) (.nilck (.t 48)) none,
    .mk4 2 (some 50) (.faddr 16 (.t 49)) none,
    .mk4 3 none (.store 1 (.t 50) (.c (.nils))) none] []) (.seq (.region 0 [.mk4 0 (some 4) (.mv (.c (.i 0))) none] [4]) (.ret)))
def c8_3 : AC :=
  .seq (.region 0 [.mk4 0 (some 20) (.mv (.t 0)) none,
    .mk4 1 (some 21) (.mv (.t 1)) none,
    .mk4 2 (some 22) (.build [.bool false, .i 0, .i 0] []) none,
    .mk4 3 (some 23) (.nilck (.t 20)) none,
    .mk4 4 (some 24) (.faddr 0 (.t 23)) none,
    .mk4 5 (some 25) (.ixaA 96 3 (.t 24) (.t 21)) none,
    .mk4 6 none (.store 3 (.t 25) (.t 22)) none] [0, 5, 6]) (.seq (.region 0 [.mk4 0 (some 26) (.mv (.t 6)) none,
    .mk4 1 (some 27) (.faddr 2 (.t 5)) none,
    .mk4 2 (some 28) (.load1 (.t 27)) none,
    .mk4 3 (some 29) (.call 37 [(.t 26), (.t 28)]) none] [0, 6]) (c8_2))
def c8_4 : AC :=
  .seq (.region 0 [.mk4 0 (some 11) (.mv (.t 0)) none,
    .mk4 1 (some 12) (.mv (.t 1)) none,
    .mk4 2 (some 13) (.call 36 [(.t 11), (.t 12)]) none,
    .mk4 3 (some 10) (.mv (.t 13)) none,
    .mk4 4 (some 14) (.extract (.t 10) 0) none,
    .mk4 5 (some 15) (.extract (.t 10) 1) none,
    .mk4 6 (some 16) (.extract (.t 10) 2) none,
    .mk4 7 (some 5) (.alloc 3 [.bool false, .i 0, .i 0]) none,
    .mk4 8 none (.store 3 (.t 5) (.t 14)) none,
    .mk4 9 (some 6) (.mv (.t 15)) none,
    .mk4 10 (some 7) (.mv (.t 16)) none] [0, 1, 5, 6, 7]) (.seq (.seq (.region 0 [.mk4 0 (some 17) (.mv (.t 7)) none,
    .mk4 1 (some 18) (.bin .neq (.t 17) (.c (.i 0))) none] [0, 1, 5, 6, 7, 18]) (.cond (.t 18) (.seq (.region 0 [.mk4 0 (some 19) (.mv (.t 7)) none,
    .mk4 1 (some 4) (.mv (.t 19)) none] [4]) (.ret)) (.skip))) (c8_3))
def c8 : AFn := ⟨2, 51, [.tmp 4],
  (.seq (.region 0 [.mk4 0 (some 4) (.mv (.c (.i 0))) none] [0, 1]) (c8_4))⟩
def c17_0 : AC :=
  .seq (.region 0 [.mk4 0 (some 1) (.call 40 []) none,
    .mk4 1 (some 2) (.build [.bool false, .i 0, .i 0, .bool false, .i 0, .i 0, .bool false, .i 0, .i 0, .bool false, .i 0, .i 0, .bool false, .i 0, .i 0, .bool false, .i 0, .i 0, .bool false, .i 0, .i 0, .bool false, .i 0, .i 0, .bool false, .i 0, .i 0, .bool false, .i 0, .i 0, .bool false, .i 0, .i 0, .bool false, .i 0, .i 0, .bool false, .i 0, .i 0, .bool false, .i 0, .i 0, .bool false, .i 0, .i 0, .bool false, .i 0, .i 0, .bool false, .i 0, .i 0, .bool false, .i 0, .i 0, .bool false, .i 0, .i 0, .bool false, .i 0, .i 0, .bool false, .i 0, .i 0, .bool false, .i 0, .i 0, .bool false, .i 0, .i 0, .bool false, .i 0, .i 0, .bool false, .i 0, .i 0, .bool false, .i 0, .i 0, .bool false, .i 0, .i 0, .bool false, .i 0, .i 0, .bool false, .i 0, .i 0, .bool false, .i 0, .i 0, .bool false, .i 0, .i 0, .bool false, .i 0, .i 0, .bool false, .i 0, .i 0, .bool false, .i 0, .i 0, .bool false, .i 0, .i 0, .bool false, .i 0, .i 0, .bool false, .i 0, .i 0, .bool false, .i 0, .i 0, .bool false, .i 0, .i 0, .bool false, .i 0, .i 0, .bool false, .i 0, .i 0, .bool false, .i 0, .i 0, .bool false, .i 0, .i 0, .bool false, .i 0, .i 0, .bool false, .i 0, .i 0, .bool false, .i 0, .i 0, .bool false, .i 0, .i 0, .bool false, .i 0, .i 0, .bool false, .i 0, .i 0, .bool false, .i 0, .i 0, .bool false, .i 0, .i 0, .bool false, .i 0, .i 0, .bool false, .i 0, .i 0, .bool false, .i 0, .i 0, .bool false, .i 0, .i 0, .bool false, .i 0, .i 0, .bool false, .i 0, .i 0, .bool false, .i 0, .i 0, .bool false, .i 0, .i 0, .bool false, .i 0, .i 0, .bool false, .i 0, .i 0, .bool false, .i 0, .i 0, .bool false, .i 0, .i 0, .bool false, .i 0, .i 0, .bool false, .i 0, .i 0, .bool false, .i 0, .i 0, .bool false, .i 0, .i 0, .bool false, .i 0, .i 0, .bool false, .i 0, .i 0, .bool false, .i 0, .i 0, .bool false, .i 0, .i 0, .bool false, .i 0, .i 0, .bool false, .i 0, .i 0, .bool false, .i 0, .i 0, .bool false, .i 0, .i 0, .bool false, .i 0, .i 0, .bool false, .i 0, .i 0, .bool false, .i 0, .i 0, .bool false, .i 0, .i 0, .bool false, .i 0, .i 0, .bool false, .i 0, .i 0, .bool false, .i 0, .i 0, .bool false, .i 0, .i 0, .bool false, .i 0, .i 0, .bool false, .i 0, .i 0, .bool false, .i 0, .i 0, .bool false, .i 0, .i 0, .bool false, .i 0, .i 0, .bool false, .i 0, .i 0, .bool false, .i 0, .i 0, .bool false, .i 0, .i 0, .bool false, .i 0, .i 0, .bool false, .i 0, .i 0, .bool false, .i 0, .i 0, .bool false, .i 0, .i 0, .bool false, .i 0, .i 0, .nils, .ptr none, .int .u64 0, .bool false, .i 0, .i 0] [(289, 1, (.t 1))]) none,
    .mk4 2 (some 3) (.box 294 (.t 2)) none,
    .mk4 3 (some 0) (.mv (.t 3)) none] [0]) (.ret)
def c17 : AFn := ⟨0, 4, [.tmp 0],
  (.seq (.region 0 [.mk4 0 (some 0) (.mv (.c (.ptr none))) none] []) (c17_0))⟩
def c18_0 : AC :=
  .seq (.region 0 [.mk4 0 (some 26) (.mv (.t 8)) none,
    .mk4 1 (some 27) (.ixaS 1 (.t 26) (.c (.i 0))) none,
    .mk4 2 (some 28) (.load1 (.t 27)) none,
    .mk4 3 (some 29) (.mv (.t 0)) none,
    .mk4 4 (some 30) (.nilck (.t 29)) none,
    .mk4 5 (some 31) (.faddr 288 (.t 30)) none,
    .mk4 6 (some 32) (.load1 (.t 31)) none,
    .mk4 7 (some 33) (.lenL (.t 32)) none,
    .mk4 8 (some 34) (.bin .sub (.t 33) (.c (.i 1))) none,
    .mk4 9 (some 4) (.mv (.t 28)) none,
    .mk4 10 (some 5) (.mv (.t 34)) none,
    .mk4 11 (some 6) (.mv (.c (.i 0))) none] [4, 5, 6]) (.ret)
def c18_1 : AC :=
  .seq (.seq (.region 0 [.mk4 0 (some 23) (.mv (.t 6)) none,
    .mk4 1 (some 24) (.bin .neq (.t 23) (.c (.i 0))) none] [0, 6, 8, 24]) (.cond (.t 24) (.seq (.region 0 [.mk4 0 (some 25) (.mv (.t 6)) none,
    .mk4 1 (some 4) (.mv (.c (.i 0))) none,
    .mk4 2 (some 5) (.mv (.c (.i 0))) none,
    .mk4 3 (some 6) (.mv (.t 25)) none] [4, 5, 6]) (.ret)) (.skip))) (c18_0)
def c18_2 : AC :=
  .seq (.region 0 [.mk4 0 (some 17) (.mv (.t 0)) none,
    .mk4 1 (some 18) (.mv (.t 1)) none,
    .mk4 2 (some 19) (.mv (.t 7)) none,
    .mk4 3 (some 20) (.call 42 [(.t 17), (.t 18), (.c (.i 1)), (.t 19)]) none,
    .mk4 4 (some 16) (.mv (.t 20)) none,
    .mk4 5 (some 21) (.extract (.t 16) 0) none,
    .mk4 6 (some 22) (.extract (.t 16) 1) none,
    .mk4 7 (some 8) (.mv (.t 21)) none,
    .mk4 8 (some 6) (.mv (.t 22)) none] [0, 6, 8]) (c18_1)
def c18_3 : AC :=
  .seq (.region 0 [.mk4 0 (some 11) (.mv (.t 7)) none,
    .mk4 1 (some 12) (.nilck (.t 11)) none,
    .mk4 2 (some 13) (.faddr 0 (.t 12)) none,
    .mk4 3 (some 14) (.ixaA 2 7 (.t 13) (.c (.i 1))) none,
    .mk4 4 (some 15) (.faddr 0 (.t 14)) none,
    .mk4 5 none (.store 1 (.t 15) (.c (.i 2))) none] [0, 1, 7]) (c18_2)
def c18_4 : AC :=
  .seq (.region 0 [.mk4 0 (some 4) (.mv (.c (.i 0))) none,
    .mk4 1 (some 5) (.mv (.c (.i 0))) none,
    .mk4 2 (some 6) (.mv (.c (.i 0))) none] [0, 1]) (.seq (.region 0 [.mk4 0 (some 9) (.mv (.t 1)) none,
    .mk4 1 (some 10) (.call 41 [(.t 9)]) none,
    .mk4 2 (some 7) (.mv (.t 10)) none] [0, 1, 7]) (c18_3))
def c18 : AFn := ⟨2, 35, [.tmp 4, .tmp 5, .tmp 6],
  (c18_4)⟩
def c22_0 : AC :=
  .seq (.region 0 [.mk4 0 (some 85) (.faddr 3 (.t 8)) none,
    .mk4 1 (some 86) (.load1 (.t 85)) none,
    .mk4 2 (some 87) (.mv (.t 86)) none,
    .mk4 3 (some 88) (.faddr 4 (.t 8)) (some (87, true)),
    .mk4 4 (some 89) (.load1 (.t 88)) (some (87, true)),
    .mk4 5 (some 90) (.un .not (.t 89)) (some (87, true)),
    .mk4 6 (some 91) (.pick (.t 87) (.t 90) (.c (.bool false))) none,
    .mk4 7 (some 92) (.mv (.t 91)) none,
    .mk4 8 (some 93) (.faddr 3 (.t 10)) (some (92, true)),
    .mk4 9 (some 94) (.load1 (.t 93)) (some (92, true)),
    .mk4 10 (some 95) (.mv (.t 94)) (some (92, true)),
    .mk4 11 (some 96) (.mv (.t 6)) (some (95, false)),
    .mk4 12 (some 97) (.nilck (.t 96)) (some (95, false)),
    .mk4 13 (some 98) (.faddr 14 (.t 97)) (some (95, false)),
    .mk4 14 (some 99) (.load1 (.t 98)) (some (95, false)),
    .mk4 15 (some 100) (.pick (.t 95) (.c (.bool true)) (.t 99)) (some (92, true)),
    .mk4 16 (some 101) (.mv (.t 100)) (some (92, true)),
    .mk4 17 (some 102) (.faddr 2 (.t 9)) (some (101, false)),
    .mk4 18 (some 103) (.load1 (.t 102)) (some (101, false)),
    .mk4 19 (some 104) (.call 49 [(.t 103)]) (some (101, false)),
    .mk4 20 (some 105) (.bin .gtr (.t 104) (.c (.i 0))) (some (101, false)),
    .mk4 21 (some 106) (.pick (.t 101) (.c (.bool true)) (.t 105)) (some (92, true)),
    .mk4 22 (some 107) (.pick (.t 92) (.t 106) (.c (.bool false))) none,
    .mk4 23 (some 108) (.faddr 2 (.t 10)) none,
    .mk4 24 none (.store 1 (.t 108) (.t 107)) none] [4, 10]) (.seq (.region 0 [.mk4 0 (some 109) (.loadN 7 (.t 10)) none,
    .mk4 1 none (.store 7 (.t 4) (.t 109)) none] [4]) (.ret))
def c22_1 : AC :=
  .seq (.region 0 [.mk4 0 (some 63) (.faddr 2 (.t 8)) none,
    .mk4 1 (some 64) (.load1 (.t 63)) none,
    .mk4 2 (some 65) (.eq .ptr true (.t 64) (.c (.ptr none))) none,
    .mk4 3 (some 66) (.mv (.t 65)) none,
    .mk4 4 (some 67) (.faddr 2 (.t 8)) (some (66, true)),
    .mk4 5 (some 68) (.load1 (.t 67)) (some (66, true)),
    .mk4 6 (some 69) (.call 48 [(.t 68)]) (some (66, true)),
    .mk4 7 (some 70) (.bin .gtr (.t 69) (.c (.i 0))) (some (66, true)),
    .mk4 8 (some 71) (.mv (.t 70)) (some (66, true)),
    .mk4 9 (some 72) (.mv (.t 6)) (some (71, false)),
    .mk4 10 (some 73) (.faddr 2 (.t 5)) (some (71, false)),
    .mk4 11 (some 74) (.load1 (.t 73)) (some (71, false)),
    .mk4 12 (some 75) (.call 47 [(.t 72), (.t 74)]) (some (71, false)),
    .mk4 13 (some 76) (.pick (.t 71) (.c (.bool true)) (.t 75)) (some (66, true)),
    .mk4 14 (some 77) (.mv (.t 76)) (some (66, true)),
    .mk4 15 (some 78) (.mv (.t 6)) (some (77, false)),
    .mk4 16 (some 79) (.nilck (.t 78)) (some (77, false)),
    .mk4 17 (some 80) (.faddr 14 (.t 79)) (some (77, false)),
    .mk4 18 (some 81) (.load1 (.t 80)) (some (77, false)),
    .mk4 19 (some 82) (.pick (.t 77) (.c (.bool true)) (.t 81)) (some (66, true)),
    .mk4 20 (some 83) (.pick (.t 66) (.t 82) (.c (.bool false))) none,
    .mk4 21 (some 84) (.faddr 1 (.t 10)) none,
    .mk4 22 none (.store 1 (.t 84) (.t 83)) none] [4, 6, 8, 9, 10]) (c22_0)
def c22_2 : AC :=
  .seq (.region 0 [.mk4 0 (some 46) (.mv (.t 6)) none,
    .mk4 1 (some 47) (.nilck (.t 46)) none,
    .mk4 2 (some 48) (.faddr 16 (.t 47)) none,
    .mk4 3 (some 49) (.load1 (.t 48)) none,
    .mk4 4 (some 50) (.lenL (.t 49)) none,
    .mk4 5 (some 51) (.bin .gtr (.t 50) (.c (.i 0))) none,
    .mk4 6 (some 52) (.faddr 1 (.t 10)) none,
    .mk4 7 none (.store 1 (.t 52) (.t 51)) none] [4, 10]) (.seq (.region 0 [.mk4 0 (some 53) (.loadN 7 (.t 10)) none,
    .mk4 1 none (.store 7 (.t 4) (.t 53)) none] [4]) (.ret))
def c22_3 : AC :=
  .seq (.region 0 [.mk4 0 (some 54) (.faddr 0 (.t 9)) none,
    .mk4 1 (some 55) (.load1 (.t 54)) none,
    .mk4 2 (some 56) (.bin .eql (.t 55) (.c (.i 3))) none,
    .mk4 3 (some 57) (.mv (.t 6)) none,
    .mk4 4 (some 58) (.nilck (.t 57)) none,
    .mk4 5 (some 59) (.faddr 14 (.t 58)) none,
    .mk4 6 (some 60) (.load1 (.t 59)) none,
    .mk4 7 (some 61) (.faddr 3 (.t 10)) none,
    ⟨8, none, .store 1 (.t 61) (.t 56), none, none, [(60, .load1 (.t 59), none)]⟩,
    .mk4 9 (some 62) (.faddr 4 (.t 10)) none,
    .mk4 10 none (.store 1 (.t 62) (.t 60)) none] [4, 5, 6, 8, 9, 10]) (c22_1)
def c22_4 : AC :=
  .seq (.seq (.region 0 [.mk4 0 (some 41) (.mv (.t 6)) none,
    .mk4 1 (some 42) (.nilck (.t 41)) none,
    .mk4 2 (some 43) (.faddr 15 (.t 42)) none,
    .mk4 3 (some 44) (.load1 (.t 43)) none,
    .mk4 4 (some 45) (.bin .gtr (.t 44) (.c (.i 0))) none] [4, 5, 6, 8, 9, 10, 45]) (.cond (.t 45) (c22_2) (.skip))) (c22_3)
def c22_5 : AC :=
  .seq (.region 0 [.mk4 0 (some 36) (.faddr 5 (.t 8)) none,
    .mk4 1 (some 37) (.load1 (.t 36)) none,
    .mk4 2 (some 38) (.faddr 6 (.t 8)) none,
    .mk4 3 (some 39) (.load1 (.t 38)) none,
    .mk4 4 (some 40) (.build [.bool false, .bool false, .bool false, .bool false, .bool false, .int .u64 0, .int .u64 0] [(0, 1, (.c (.bool true))), (5, 1, (.t 37)), (6, 1, (.t 39))]) none,
    .mk4 5 (some 10) (.alloc 7 [.bool false, .bool false, .bool false, .bool false, .bool false, .int .u64 0, .int .u64 0]) none,
    .mk4 6 none (.store 7 (.t 10) (.t 40)) none] [4, 5, 6, 8, 9, 10]) (c22_4)
def c22_6 : AC :=
  .seq (.region 2 [.mk4 0 (some 21) (.mv (.t 6)) none,
    .mk4 1 (some 22) (.faddr 2 (.t 5)) none,
    .mk4 2 (some 23) (.load1 (.t 22)) none,
    .mk4 3 (some 24) (.nilck (.t 21)) none,
    .mk4 4 (some 25) (.faddr 0 (.t 24)) none,
    .mk4 5 (some 26) (.ixaA 2 7 (.t 25) (.t 23)) none,
    .mk4 6 (some 27) (.loadN 7 (.t 26)) none,
    .mk4 7 (some 28) (.mv (.t 6)) none,
    .mk4 8 (some 29) (.faddr 2 (.t 5)) none,
    .mk4 9 (some 30) (.load1 (.t 29)) none,
    .mk4 10 (some 31) (.bin .sub (.c (.i 1)) (.t 30)) none,
    .mk4 11 (some 32) (.nilck (.t 28)) none,
    .mk4 12 (some 33) (.faddr 0 (.t 32)) none,
    .mk4 13 (some 34) (.ixaA 2 7 (.t 33) (.t 31)) none,
    .mk4 14 (some 35) (.loadN 7 (.t 34)) none,
    ⟨15, (some 8), .alloc 7 [.i 0, .i 0, .ptr none, .bool false, .bool false, .int .u64 0, .int .u64 0], none, some 0, []⟩,
    ⟨16, (some 9), .alloc 7 [.i 0, .i 0, .ptr none, .bool false, .bool false, .int .u64 0, .int .u64 0], none, some 1, []⟩,
    ⟨17, none, .store 7 (.t 8) (.t 27), none, none, [(30, .load1 (.t 29), none), (35, .loadN 7 (.t 34), none)]⟩,
    .mk4 18 none (.store 7 (.t 9) (.t 35)) none] [4, 5, 6, 8, 9]) (c22_5)
def c22_7 : AC :=
  .seq (.seq (.region 0 [.mk4 0 (some 18) (.mv (.t 7)) none,
    .mk4 1 (some 19) (.bin .neq (.t 18) (.c (.i 0))) none] [4, 5, 6, 19]) (.cond (.t 19) (.seq (.region 0 [.mk4 0 (some 20) (.build [.bool false, .bool false, .bool false, .bool false, .bool false, .int .u64 0, .int .u64 0] []) none,
    .mk4 1 none (.store 7 (.t 4) (.t 20)) none] [4]) (.ret)) (.skip))) (c22_6)
def c22_8 : AC :=
  .seq (.region 0 [.mk4 0 (some 12) (.mv (.t 0)) none,
    .mk4 1 (some 13) (.mv (.t 1)) none,
    .mk4 2 (some 14) (.call 36 [(.t 12), (.t 13)]) none,
    .mk4 3 (some 11) (.mv (.t 14)) none,
    .mk4 4 (some 15) (.extract (.t 11) 0) none,
    .mk4 5 (some 16) (.extract (.t 11) 1) none,
    .mk4 6 (some 17) (.extract (.t 11) 2) none,
    .mk4 7 (some 5) (.alloc 3 [.bool false, .i 0, .i 0]) none,
    .mk4 8 none (.store 3 (.t 5) (.t 15)) none,
    .mk4 9 (some 6) (.mv (.t 16)) none,
    .mk4 10 (some 7) (.mv (.t 17)) none] [4, 5, 6, 7]) (c22_7)
def c22 : AFn := ⟨2, 110, [.cellN 4 7],
  (.seq (.region 0 [.mk4 0 (some 4) (.alloc 7 [.bool false, .bool false, .bool false, .bool false, .bool false, .int .u64 0, .int .u64 0]) none] [0, 1, 4]) (c22_8))⟩
def c27_0 : AC :=
  .seq (.region 0 [.mk4 0 (some 3) (.mv (.t 1)) none,
    .mk4 1 (some 4) (.call 35 [(.t 3), (.c (.i 4))]) none] [1]) (.seq (.region 0 [.mk4 0 (some 5) (.mv (.t 1)) none,
    .mk4 1 (some 6) (.call 18 [(.t 5), (.c (.i 4))]) none] [1]) (.seq (.region 0 [.mk4 0 (some 7) (.mv (.t 1)) none,
    .mk4 1 (some 0) (.mv (.t 7)) none] [0]) (.ret)))
def c27 : AFn := ⟨0, 8, [.tmp 0],
  (.seq (.region 0 [.mk4 0 (some 0) (.mv (.c (.ptr none))) none] []) (.seq (.region 0 [.mk4 0 (some 2) (.call 17 []) none,
    .mk4 1 (some 1) (.mv (.t 2)) none] [1]) (c27_0)))⟩
def c28_0 : AC :=
  .seq (.region 0 [.mk4 0 (some 63) (.loadN 2 (.t 9)) none,
    .mk4 1 (some 64) (.mv (.t 12)) none,
    .mk4 2 (some 65) (.call 53 [(.t 63), (.t 64)]) none,
    .mk4 3 (some 62) (.mv (.t 65)) none,
    .mk4 4 (some 66) (.extract (.t 62) 0) none,
    .mk4 5 (some 67) (.extract (.t 62) 1) none,
    .mk4 6 none (.store 2 (.t 9) (.t 66)) none] [10]) (.region 0 [.mk4 0 (some 68) (.load1 (.t 10)) none,
    .mk4 1 (some 69) (.bin .add (.t 68) (.c (.i 1))) none,
    .mk4 2 none (.store 1 (.t 10) (.t 69)) none] [])
def c28_1 : AC :=
  .seq (.region 0 [.mk4 0 (some 52) (.loadN 2 (.t 8)) none,
    .mk4 1 (some 53) (.mv (.t 12)) none,
    .mk4 2 (some 54) (.call 53 [(.t 52), (.t 53)]) none,
    .mk4 3 (some 51) (.mv (.t 54)) none,
    .mk4 4 (some 55) (.extract (.t 51) 0) none,
    .mk4 5 (some 56) (.extract (.t 51) 1) none,
    .mk4 6 none (.store 2 (.t 8) (.t 55)) none] [9, 10, 12, 13]) (.region 0 [.mk4 0 (some 57) (.load1 (.t 10)) none,
    .mk4 1 (some 58) (.bin .add (.t 57) (.c (.i 1))) none,
    .mk4 2 none (.store 1 (.t 10) (.t 58)) none] [9, 10, 12, 13])
def c28_2 : AC :=
  .seq (.seq (.region 0 [.mk4 0 (some 48) (.mv (.t 13)) none,
    .mk4 1 (some 49) (.bin .and (.t 48) (.c (.i 2))) none,
    .mk4 2 (some 50) (.bin .neq (.t 49) (.c (.i 0))) none] [8, 9, 10, 12, 13, 50]) (.cond (.t 50) (c28_1) (.skip))) (.seq (.region 0 [.mk4 0 (some 59) (.mv (.t 13)) none,
    .mk4 1 (some 60) (.bin .and (.t 59) (.c (.i 4))) none,
    .mk4 2 (some 61) (.bin .neq (.t 60) (.c (.i 0))) none] [9, 10, 12, 61]) (.cond (.t 61) (c28_0) (.skip)))
def c28_3 : AC :=
  .seq (.region 0 [.mk4 0 (some 42) (.mv (.t 13)) none,
    .mk4 1 (some 43) (.load1 (.t 4)) none,
    .mk4 2 (some 44) (.mv (.t 12)) none,
    .mk4 3 (some 45) (.call 22 [(.t 43), (.t 44)]) none,
    .mk4 4 (some 46) (.call 52 [(.t 45)]) none,
    .mk4 5 (some 47) (.bin .and (.t 42) (.t 46)) none,
    .mk4 6 (some 13) (.mv (.t 47)) none] [8, 9, 10, 12, 13]) (c28_2)
def c28_4 : AC :=
  .seq (.region 0 [.mk4 0 (some 70) (.loadN 2 (.t 8)) none,
    .mk4 1 (some 71) (.loadN 2 (.t 9)) none,
    .mk4 2 (some 72) (.load1 (.t 10)) none,
    ⟨3, none, .store 2 (.t 8) (.t 70), none, none, [(71, .loadN 2 (.t 9), none), (72, .load1 (.t 10), none)]⟩,
    ⟨4, none, .store 2 (.t 9) (.t 71), none, none, [(72, .load1 (.t 10), none)]⟩,
    .mk4 5 none (.store 1 (.t 10) (.t 72)) none,
    .mk4 6 (some 11) (.mv (.c (.i 0))) none] [8, 9, 10, 11]) (.ret)
def c28_5 : AC :=
  .seq (.region 0 [.mk4 0 (some 34) (.loadN 2 (.t 8)) none,
    .mk4 1 (some 35) (.loadN 2 (.t 9)) none,
    ⟨2, none, .store 2 (.t 8) (.t 34), none, none, [(35, .loadN 2 (.t 9), none)]⟩,
    .mk4 3 none (.store 2 (.t 9) (.t 35)) none,
    .mk4 4 none (.store 1 (.t 10) (.c (.i 0))) none,
    .mk4 5 (some 11) (.mv (.c (.i 110))) none] [8, 9, 10, 11]) (.ret)
def c28_6 : AC :=
  .seq (.region 0 [.mk4 0 (some 26) (.loadN 2 (.t 8)) none,
    .mk4 1 (some 27) (.loadN 2 (.t 9)) none,
    ⟨2, none, .store 2 (.t 8) (.t 26), none, none, [(27, .loadN 2 (.t 9), none)]⟩,
    .mk4 3 none (.store 2 (.t 9) (.t 27)) none,
    .mk4 4 none (.store 1 (.t 10) (.c (.i 0))) none,
    .mk4 5 (some 11) (.mv (.c (.i 2))) none] [8, 9, 10, 11]) (.ret)
def c28_7 : AC :=
  .seq (.region 0 [.mk4 0 (some 29) (.load1 (.t 4)) none,
    .mk4 1 (some 30) (.mv (.t 1)) none,
    .mk4 2 (some 31) (.loadN 2 (.t 6)) none,
    .mk4 3 (some 32) (.loadN 2 (.t 7)) none,
    .mk4 4 (some 33) (.call 50 [(.t 29), (.t 30), (.t 31), (.t 32)]) none,
    .mk4 5 (some 28) (.mv (.t 33)) none] [1, 4, 6, 7, 8, 9, 10, 28]) (.cond (.t 28) (c28_5) (.skip))
def c28_8 : AC :=
  .seq (.region 0 [.mk4 0 (some 17) (.loadN 2 (.t 8)) none,
    .mk4 1 (some 18) (.loadN 2 (.t 9)) none,
    ⟨2, none, .store 2 (.t 8) (.t 17), none, none, [(18, .loadN 2 (.t 9), none)]⟩,
    .mk4 3 none (.store 2 (.t 9) (.t 18)) none,
    .mk4 4 none (.store 1 (.t 10) (.c (.i 0))) none,
    .mk4 5 (some 11) (.mv (.c (.i 1))) none] [8, 9, 10, 11]) (.ret)
def c28_9 : AC :=
  .seq (.region 0 [.mk4 0 (some 20) (.mv (.t 1)) none,
    .mk4 1 (some 21) (.bin .lss (.t 20) (.c (.i 0))) none,
    .mk4 2 (some 22) (.mv (.t 21)) none,
    .mk4 3 (some 23) (.mv (.t 1)) (some (22, false)),
    .mk4 4 (some 24) (.bin .gtr (.t 23) (.c (.i 64))) (some (22, false)),
    .mk4 5 (some 25) (.pick (.t 22) (.c (.bool true)) (.t 24)) none,
    .mk4 6 (some 19) (.mv (.t 25)) none] [1, 4, 6, 7, 8, 9, 10, 19]) (.cond (.t 19) (c28_6) (c28_7))
def c28_10 : AC :=
  .seq (.seq (.region 0 [.mk4 0 (some 36) (.mv (.t 1)) none,
    .mk4 1 (some 37) (.loadN 2 (.t 6)) none,
    .mk4 2 (some 38) (.loadN 2 (.t 7)) none,
    .mk4 3 (some 39) (.call 51 [(.t 36), (.t 37), (.t 38)]) none] [4, 8, 9, 10, 39]) (.block 1 (.rangeFunc (.t 39) [40, 41] [4, 8, 9, 10] (.seq (.region 0 [.mk4 0 (some 12) (.mv (.t 40)) none] [4, 8, 9, 10, 12, 41]) (.region 0 [.mk4 0 (some 13) (.mv (.t 41)) none] [4, 8, 9, 10, 12, 13])) (.block 2 (c28_3))))) (c28_4)
def c28_11 : AC :=
  .seq (.region 0 [.mk4 0 (some 4) (.box 1 (.t 0)) none,
    .mk4 1 (some 6) (.box 2 (.t 2)) none,
    .mk4 2 (some 7) (.box 2 (.t 3)) none,
    .mk4 3 (some 8) (.alloc 2 [.int .u32 0, .int .u32 0]) none,
    .mk4 4 (some 9) (.alloc 2 [.int .u32 0, .int .u32 0]) none,
    .mk4 5 (some 10) (.alloc 1 [.i 0]) none,
    .mk4 6 (some 11) (.mv (.c (.i 0))) none] [1, 4, 6, 7, 8, 9, 10]) (.seq (.block 0 (.seq (.region 0 [.mk4 0 (some 15) (.load1 (.t 4)) none,
    .mk4 1 (some 16) (.eq .ptr false (.t 15) (.c (.ptr none))) none,
    .mk4 2 (some 14) (.mv (.t 16)) none] [1, 4, 6, 7, 8, 9, 10, 14]) (.cond (.t 14) (c28_8) (c28_9)))) (c28_10))
def c28 : AFn := ⟨4, 73, [.cellN 8 2, .cellN 9 2, .cell1 10, .tmp 11],
  (c28_11)⟩
def c29_0 : AC :=
  .seq (.region 0 [.mk4 0 (some 6) (.mv (.t 0)) none,
    .mk4 1 (some 7) (.call 54 [(.t 6)]) none,
    .mk4 2 (some 5) (.mv (.t 7)) none,
    .mk4 3 (some 8) (.extract (.t 5) 0) none,
    .mk4 4 (some 9) (.extract (.t 5) 1) none,
    .mk4 5 (some 3) (.alloc 2 [.int .u32 0, .int .u32 0]) none,
    .mk4 6 none (.store 2 (.t 3) (.t 8)) none,
    .mk4 7 (some 4) (.mv (.t 9)) none] [2, 3]) (.seq (.region 0 [.mk4 0 (some 10) (.loadN 2 (.t 3)) none,
    .mk4 1 none (.store 2 (.t 2) (.t 10)) none] [2]) (.ret))
def c29 : AFn := ⟨1, 11, [.cellN 2 2],
  (.seq (.region 0 [.mk4 0 (some 2) (.alloc 2 [.int .u32 0, .int .u32 0]) none] [0, 2]) (c29_0))⟩
def c30_0 : AC :=
  .seq (.region 0 [.mk4 0 (some 16) (.mv (.t 4)) none,
    .mk4 1 (some 17) (.bin .eql (.t 16) (.c (.i 0))) none,
    .mk4 2 (some 18) (.mv (.t 17)) none,
    .mk4 3 (some 19) (.mv (.t 3)) (some (18, true)),
    .mk4 4 (some 20) (.bin .eql (.t 19) (.c (.i 2))) (some (18, true)),
    .mk4 5 (some 21) (.pick (.t 18) (.t 20) (.c (.bool false))) none,
    .mk4 6 (some 22) (.mv (.t 21)) none,
    .mk4 7 (some 23) (.loadN 2 (.t 1)) (some (22, true)),
    .mk4 8 (some 24) (.call 32 [(.t 23)]) (some (22, true)),
    .mk4 9 (some 25) (.bin .eql (.t 24) (.c (.i 0))) (some (22, true)),
    .mk4 10 (some 26) (.pick (.t 22) (.t 25) (.c (.bool false))) none,
    .mk4 11 (some 27) (.mv (.t 26)) none,
    .mk4 12 (some 28) (.loadN 2 (.t 2)) (some (27, true)),
    .mk4 13 (some 29) (.call 32 [(.t 28)]) (some (27, true)),
    .mk4 14 (some 30) (.bin .eql (.t 29) (.c (.i 2))) (some (27, true)),
    .mk4 15 (some 31) (.pick (.t 27) (.t 30) (.c (.bool false))) none,
    .mk4 16 (some 32) (.mv (.t 31)) none,
    .mk4 17 (some 33) (.loadN 2 (.t 2)) (some (32, true)),
    .mk4 18 (some 34) (.call 31 [(.t 33), (.c (.i 1))]) (some (32, true)),
    .mk4 19 (some 35) (.pick (.t 32) (.t 34) (.c (.bool false))) none,
    .mk4 20 (some 36) (.mv (.t 35)) none,
    .mk4 21 (some 37) (.loadN 2 (.t 2)) (some (36, true)),
    .mk4 22 (some 38) (.call 31 [(.t 37), (.c (.i 2))]) (some (36, true)),
    .mk4 23 (some 39) (.pick (.t 36) (.t 38) (.c (.bool false))) none,
    .mk4 24 (some 0) (.mv (.t 39)) none] [0]) (.ret)
def c30_1 : AC :=
  .seq (.region 0 [.mk4 0 (some 6) (.call 27 []) none,
    .mk4 1 (some 7) (.bslice 1 2 [.i 0, .i 0] [(0, (.c (.i 0))), (1, (.c (.i 2)))]) none,
    .mk4 2 (some 8) (.call 29 [(.t 7)]) none,
    .mk4 3 (some 9) (.bslice 1 2 [.i 0, .i 0] [(0, (.c (.i 1))), (1, (.c (.i 2)))]) none,
    .mk4 4 (some 10) (.call 29 [(.t 9)]) none,
    .mk4 5 (some 11) (.call 28 [(.t 6), (.c (.i 3)), (.t 8), (.t 10)]) none,
    .mk4 6 (some 5) (.mv (.t 11)) none,
    .mk4 7 (some 12) (.extract (.t 5) 0) none,
    .mk4 8 (some 13) (.extract (.t 5) 1) none,
    .mk4 9 (some 14) (.extract (.t 5) 2) none,
    .mk4 10 (some 15) (.extract (.t 5) 3) none,
    .mk4 11 (some 1) (.alloc 2 [.int .u32 0, .int .u32 0]) none,
    .mk4 12 (some 2) (.alloc 2 [.int .u32 0, .int .u32 0]) none,
    .mk4 13 none (.store 2 (.t 1) (.t 12)) none,
    .mk4 14 none (.store 2 (.t 2) (.t 13)) none,
    .mk4 15 (some 3) (.mv (.t 14)) none,
    .mk4 16 (some 4) (.mv (.t 15)) none] [1, 2, 3, 4]) (c30_0)
def c30 : AFn := ⟨0, 40, [.tmp 0],
  (.seq (.region 0 [.mk4 0 (some 0) (.mv (.c (.bool false))) none] []) (c30_1))⟩
def c31_0 : AC :=
  .seq (.region 0 [.mk4 0 (some 5) (.mv (.t 1)) none,
    .mk4 1 (some 6) (.call 55 [(.t 5)]) none,
    .mk4 2 (some 7) (.mv (.t 6)) none,
    .mk4 3 (some 8) (.mv (.t 1)) (some (7, true)),
    .mk4 4 (some 9) (.bin .quo (.t 8) (.c (.i 32))) (some (7, true)),
    .mk4 5 (some 10) (.ixaA 2 1 (.t 2) (.t 9)) (some (7, true)),
    .mk4 6 (some 11) (.load1 (.t 10)) (some (7, true)),
    .mk4 7 (some 12) (.mv (.t 1)) (some (7, true)),
    .mk4 8 (some 13) (.bin .rem (.t 12) (.c (.i 32))) (some (7, true)),
    .mk4 9 (some 14) (.bin .shr (.t 11) (.t 13)) (some (7, true)),
    .mk4 10 (some 15) (.bin .and (.t 14) (.c (.int .u32 1))) (some (7, true)),
    .mk4 11 (some 16) (.bin .eql (.t 15) (.c (.int .u32 1))) (some (7, true)),
    .mk4 12 (some 17) (.pick (.t 7) (.t 16) (.c (.bool false))) none,
    .mk4 13 (some 4) (.mv (.t 17)) none] [4]) (.ret)
def c31 : AFn := ⟨2, 18, [.tmp 4],
  (.seq (.region 0 [.mk4 0 (some 2) (.box 2 (.t 0)) none,
    .mk4 1 (some 4) (.mv (.c (.bool false))) none] [1, 2]) (c31_0))⟩
def c32_0 : AC :=
  .seq (.region 0 [.mk4 0 (some 3) (.ixaA 2 1 (.t 1) (.c (.i 0))) none,
    .mk4 1 (some 4) (.load1 (.t 3)) none,
    .mk4 3 (some 6) (.ixaA 2 1 (.t 1) (.c (.i 1))) none,
    .mk4 4 (some 7) (.load1 (.t 6)) none,
    ⟨2, (some 5), .call 56 [(.t 4)], none, none, [(7, .load1 (.t 6), none)]⟩,
    .mk4 5 (some 8) (.call 56 [(.t 7)]) none,
    .mk4 6 (some 9) (.bin .add (.t 5) (.t 8)) none,
    .mk4 7 (some 2) (.mv (.t 9)) none] [2]) (.ret)
def c32 : AFn := ⟨1, 10, [.tmp 2],
  (.seq (.region 0 [.mk4 0 (some 1) (.box 2 (.t 0)) none,
    .mk4 1 (some 2) (.mv (.c (.i 0))) none] [1]) (c32_0))⟩
def c33_0 : AC :=
  .seq (.region 0 [.mk4 0 (some 5) (.loadN 2 (.t 2)) none,
    .mk4 1 (some 6) (.loadN 2 (.t 3)) none,
    .mk4 2 (some 7) (.call 57 [(.t 5), (.t 6)]) none,
    .mk4 3 (some 8) (.call 58 [(.t 7)]) none,
    .mk4 4 (some 9) (.bin .add (.t 8) (.c (.i 1))) none,
    .mk4 5 (some 4) (.mv (.t 9)) none] [4]) (.ret)
def c33 : AFn := ⟨2, 10, [.tmp 4],
  (.seq (.region 0 [.mk4 0 (some 2) (.box 2 (.t 0)) none,
    .mk4 1 (some 3) (.box 2 (.t 1)) none,
    .mk4 2 (some 4) (.mv (.c (.i 0))) none] [2, 3]) (c33_0))⟩
def c34_0 : AC :=
  .seq (.region 0 [.mk4 0 (some 23) (.mv (.t 12)) none,
    .mk4 1 (some 24) (.bin .neq (.t 23) (.c (.i 0))) none,
    .mk4 2 (some 25) (.mv (.t 24)) none,
    .mk4 3 (some 26) (.mv (.t 11)) (some (25, false)),
    .mk4 4 (some 27) (.bin .gtr (.t 26) (.c (.i 0))) (some (25, false)),
    .mk4 5 (some 28) (.pick (.t 25) (.c (.bool true)) (.t 27)) none,
    .mk4 6 (some 8) (.mv (.t 28)) none] [8]) (.ret)
def c34_1 : AC :=
  .seq (.region 0 [.mk4 0 (some 14) (.mv (.t 0)) none,
    .mk4 1 (some 15) (.mv (.t 1)) none,
    .mk4 2 (some 16) (.loadN 2 (.t 6)) none,
    .mk4 3 (some 17) (.loadN 2 (.t 7)) none,
    .mk4 4 (some 18) (.call 28 [(.t 14), (.t 15), (.t 16), (.t 17)]) none,
    .mk4 5 (some 13) (.mv (.t 18)) none,
    .mk4 6 (some 19) (.extract (.t 13) 0) none,
    .mk4 7 (some 20) (.extract (.t 13) 1) none,
    .mk4 8 (some 21) (.extract (.t 13) 2) none,
    .mk4 9 (some 22) (.extract (.t 13) 3) none,
    .mk4 10 (some 9) (.alloc 2 [.int .u32 0, .int .u32 0]) none,
    .mk4 11 (some 10) (.alloc 2 [.int .u32 0, .int .u32 0]) none,
    .mk4 12 none (.store 2 (.t 9) (.t 19)) none,
    .mk4 13 none (.store 2 (.t 10) (.t 20)) none,
    .mk4 14 (some 11) (.mv (.t 21)) none,
    .mk4 15 (some 12) (.mv (.t 22)) none] [11, 12]) (c34_0)
def c34 : AFn := ⟨4, 29, [.tmp 8],
  (.seq (.region 0 [.mk4 0 (some 6) (.box 2 (.t 2)) none,
    .mk4 1 (some 7) (.box 2 (.t 3)) none,
    .mk4 2 (some 8) (.mv (.c (.bool false))) none] [0, 1, 6, 7]) (c34_1))⟩
def c35_0 : AC :=
  .seq (.region 0 [.mk4 0 (some 31) (.mv (.t 8)) none,
    .mk4 1 (some 32) (.ixaS 1 (.t 31) (.c (.i 0))) none,
    .mk4 2 (some 33) (.load1 (.t 32)) none,
    .mk4 3 (some 34) (.mv (.t 8)) none,
    .mk4 4 (some 35) (.ixaS 1 (.t 34) (.c (.i 1))) none,
    .mk4 5 (some 36) (.load1 (.t 35)) none,
    .mk4 6 (some 4) (.mv (.t 33)) none,
    .mk4 7 (some 5) (.mv (.t 36)) none,
    .mk4 8 (some 6) (.mv (.c (.i 0))) none] [4, 5, 6]) (.ret)
def c35_1 : AC :=
  .seq (.seq (.region 0 [.mk4 0 (some 28) (.mv (.t 6)) none,
    .mk4 1 (some 29) (.bin .neq (.t 28) (.c (.i 0))) none] [6, 8, 29]) (.cond (.t 29) (.seq (.region 0 [.mk4 0 (some 30) (.mv (.t 6)) none,
    .mk4 1 (some 4) (.mv (.c (.i 0))) none,
    .mk4 2 (some 5) (.mv (.c (.i 0))) none,
    .mk4 3 (some 6) (.mv (.t 30)) none] [4, 5, 6]) (.ret)) (.skip))) (c35_0)
def c35_2 : AC :=
  .seq (.region 0 [.mk4 0 (some 22) (.mv (.t 0)) none,
    .mk4 1 (some 23) (.mv (.t 1)) none,
    .mk4 2 (some 24) (.mv (.t 7)) none,
    .mk4 3 (some 25) (.call 42 [(.t 22), (.t 23), (.c (.i 2)), (.t 24)]) none,
    .mk4 4 (some 21) (.mv (.t 25)) none,
    .mk4 5 (some 26) (.extract (.t 21) 0) none,
    .mk4 6 (some 27) (.extract (.t 21) 1) none,
    .mk4 7 (some 8) (.mv (.t 26)) none,
    .mk4 8 (some 6) (.mv (.t 27)) none] [6, 8]) (c35_1)
def c35_3 : AC :=
  .seq (.region 0 [.mk4 0 (some 11) (.mv (.t 7)) none,
    .mk4 1 (some 12) (.mv (.t 7)) none,
    .mk4 2 (some 13) (.nilck (.t 11)) none,
    .mk4 3 (some 14) (.faddr 0 (.t 13)) none,
    .mk4 4 (some 15) (.ixaA 2 7 (.t 14) (.c (.i 0))) none,
    .mk4 5 (some 16) (.faddr 3 (.t 15)) none,
    .mk4 7 (some 17) (.nilck (.t 12)) none,
    .mk4 8 (some 18) (.faddr 0 (.t 17)) none,
    .mk4 6 none (.store 1 (.t 16) (.c (.bool false))) none,
    .mk4 9 (some 19) (.ixaA 2 7 (.t 18) (.c (.i 1))) none,
    .mk4 10 (some 20) (.faddr 2 (.t 19)) none,
    .mk4 11 none (.store 1 (.t 20) (.c (.ptr none))) none] [0, 1, 7]) (c35_2)
def c35_4 : AC :=
  .seq (.region 0 [.mk4 0 (some 4) (.mv (.c (.i 0))) none,
    .mk4 1 (some 5) (.mv (.c (.i 0))) none,
    .mk4 2 (some 6) (.mv (.c (.i 0))) none] [0, 1]) (.seq (.region 0 [.mk4 0 (some 9) (.mv (.t 1)) none,
    .mk4 1 (some 10) (.call 41 [(.t 9)]) none,
    .mk4 2 (some 7) (.mv (.t 10)) none] [0, 1, 7]) (c35_3))
def c35 : AFn := ⟨2, 37, [.tmp 4, .tmp 5, .tmp 6],
  (c35_4)⟩
def c36_0 : AC :=
  .seq (.region 0 [.mk4 0 (some 12) (.mv (.t 1)) none,
    .mk4 1 (some 13) (.bin .lss (.t 12) (.c (.i 0))) none,
    .mk4 2 (some 14) (.mv (.t 13)) none,
    .mk4 3 (some 15) (.mv (.t 1)) (some (14, false)),
    .mk4 4 (some 16) (.bin .gtr (.t 15) (.c (.i 95))) (some (14, false)),
    .mk4 5 (some 17) (.pick (.t 14) (.c (.bool true)) (.t 16)) none,
    .mk4 6 (some 18) (.mv (.t 17)) none,
    .mk4 7 (some 19) (.mv (.t 0)) (some (18, false)),
    .mk4 8 (some 20) (.mv (.t 1)) (some (18, false)),
    .mk4 9 (some 21) (.nilck (.t 19)) (some (18, false)),
    .mk4 10 (some 22) (.faddr 0 (.t 21)) (some (18, false)),
    .mk4 11 (some 23) (.ixaA 96 3 (.t 22) (.t 20)) (some (18, false)),
    .mk4 12 (some 24) (.faddr 0 (.t 23)) (some (18, false)),
    .mk4 13 (some 25) (.load1 (.t 24)) (some (18, false)),
    .mk4 14 (some 26) (.un .not (.t 25)) (some (18, false)),
    .mk4 15 (some 27) (.pick (.t 18) (.c (.bool true)) (.t 26)) none,
    .mk4 16 (some 11) (.mv (.t 27)) none] [0, 1, 4, 11]) (.cond (.t 11) (.seq (.region 0 [.mk4 0 (some 28) (.build [.bool false, .i 0, .i 0] []) none,
    .mk4 1 none (.store 3 (.t 4) (.t 28)) none,
    .mk4 2 (some 5) (.mv (.c (.ptr none))) none,
    .mk4 3 (some 6) (.mv (.c (.i 110))) none] [4, 5, 6]) (.ret)) (.skip))
def c36_1 : AC :=
  .seq (.region 0 [.mk4 0 (some 8) (.mv (.t 0)) none,
    .mk4 1 (some 9) (.call 59 [(.t 8)]) none,
    .mk4 2 (some 7) (.mv (.t 9)) none] [0, 1, 4, 7]) (.cond (.t 7) (.seq (.region 0 [.mk4 0 (some 10) (.build [.bool false, .i 0, .i 0] []) none,
    .mk4 1 none (.store 3 (.t 4) (.t 10)) none,
    .mk4 2 (some 5) (.mv (.c (.ptr none))) none,
    .mk4 3 (some 6) (.mv (.c (.i 1))) none] [4, 5, 6]) (.ret)) (c36_0))
def c36_2 : AC :=
  .seq (.region 0 [.mk4 0 (some 29) (.mv (.t 0)) none,
    .mk4 1 (some 30) (.mv (.t 1)) none,
    .mk4 2 (some 31) (.nilck (.t 29)) none,
    .mk4 3 (some 32) (.faddr 0 (.t 31)) none,
    .mk4 4 (some 33) (.ixaA 96 3 (.t 32) (.t 30)) none,
    .mk4 5 (some 34) (.loadN 3 (.t 33)) none,
    .mk4 6 (some 35) (.mv (.t 0)) none,
    .mk4 7 (some 36) (.nilck (.t 35)) none,
    .mk4 8 (some 37) (.faddr 288 (.t 36)) none,
    .mk4 9 (some 38) (.load1 (.t 37)) none,
    .mk4 10 (some 39) (.mv (.t 0)) none,
    .mk4 11 (some 40) (.mv (.t 1)) none,
    .mk4 12 (some 41) (.nilck (.t 39)) none,
    .mk4 13 (some 42) (.faddr 0 (.t 41)) none,
    .mk4 14 (some 43) (.ixaA 96 3 (.t 42) (.t 40)) none,
    .mk4 15 (some 44) (.faddr 1 (.t 43)) none,
    .mk4 16 (some 45) (.load1 (.t 44)) none,
    .mk4 17 (some 46) (.ixaS 1 (.t 38) (.t 45)) none,
    .mk4 18 (some 47) (.load1 (.t 46)) none,
    ⟨19, none, .store 3 (.t 4) (.t 34), none, none, [(38, .load1 (.t 37), none), (45, .load1 (.t 44), none), (47, .load1 (.t 46), none)]⟩,
    .mk4 20 (some 5) (.mv (.t 47)) none,
    .mk4 21 (some 6) (.mv (.c (.i 0))) none] [4, 5, 6]) (.ret)
def c36 : AFn := ⟨2, 48, [.cellN 4 3, .tmp 5, .tmp 6],
  (.seq (.region 0 [.mk4 0 (some 4) (.alloc 3 [.bool false, .i 0, .i 0]) none,
    .mk4 1 (some 5) (.mv (.c (.ptr none))) none,
    .mk4 2 (some 6) (.mv (.c (.i 0))) none] [0, 1, 4]) (.seq (.block 0 (c36_1)) (c36_2)))⟩
def c37_0 : AC :=
  .region 0 [.mk4 0 (some 16) (.mv (.t 0)) none,
    .mk4 1 (some 17) (.mv (.t 1)) none,
    .mk4 2 (some 18) (.nilck (.t 16)) none,
    .mk4 3 (some 19) (.faddr 0 (.t 18)) none,
    .mk4 4 (some 20) (.ixaA 2 7 (.t 19) (.t 17)) none,
    .mk4 5 (some 21) (.faddr 0 (.t 20)) none,
    .mk4 6 none (.store 1 (.t 21) (.c (.i 3))) none] []
def c37_1 : AC :=
  .seq (.region 0 [.mk4 0 (some 4) (.mv (.t 0)) none,
    .mk4 1 (some 5) (.mv (.t 1)) none,
    .mk4 2 (some 6) (.bin .sub (.c (.i 1)) (.t 5)) none,
    .mk4 3 (some 7) (.mv (.t 0)) none,
    .mk4 4 (some 8) (.mv (.t 1)) none,
    .mk4 5 (some 9) (.nilck (.t 7)) none,
    .mk4 6 (some 10) (.faddr 0 (.t 9)) none,
    .mk4 7 (some 11) (.ixaA 2 7 (.t 10) (.t 8)) none,
    .mk4 8 (some 12) (.faddr 4 (.t 11)) none,
    .mk4 9 (some 13) (.load1 (.t 12)) none,
    .mk4 10 (some 14) (.un .not (.t 13)) none,
    .mk4 11 (some 15) (.call 60 [(.t 4), (.t 6), (.t 14), (.c (.bool true))]) none] [0, 1]) (c37_0)
def c37 : AFn := ⟨2, 22, [],
  (c37_1)⟩
def c40 : AFn := ⟨0, 3, [.tmp 0],
  (.seq (.region 0 [.mk4 0 (some 0) (.mv (.c (.ptr none))) none] []) (.seq (.region 0 [.mk4 0 (some 1) (.build (List.replicate 32 (.bool false : V) ++ List.replicate 32 (.i 0 : V)) []) none,
    .mk4 1 (some 2) (.box 64 (.t 1)) none,
    .mk4 2 (some 0) (.mv (.t 2)) none] [0]) (.ret)))⟩
def c41_0 : AC :=
  .region 0 [.mk4 0 (some 21) (.mv (.t 3)) none,
    .mk4 1 (some 22) (.mv (.t 4)) none,
    .mk4 2 (some 23) (.nilck (.t 21)) none,
    .mk4 3 (some 24) (.faddr 0 (.t 23)) none,
    .mk4 4 (some 25) (.ixaA 2 7 (.t 24) (.t 22)) none,
    .mk4 5 (some 26) (.faddr 3 (.t 25)) none,
    .mk4 6 none (.store 1 (.t 26) (.c (.bool true))) none] [0, 3, 7]
def c41_1 : AC :=
  .seq (.region 0 [.mk4 0 (some 11) (.mv (.t 3)) none,
    .mk4 1 (some 12) (.mv (.t 4)) none,
    .mk4 2 (some 13) (.mv (.t 0)) none,
    .mk4 7 (some 17) (.nilck (.t 11)) none,
    .mk4 8 (some 18) (.faddr 0 (.t 17)) none,
    .mk4 3 (some 14) (.call 63 [(.t 13)]) none,
    .mk4 4 (some 10) (.mv (.t 14)) none,
    .mk4 5 (some 15) (.extract (.t 10) 0) none,
    .mk4 6 (some 16) (.extract (.t 10) 1) none,
    .mk4 9 (some 19) (.ixaA 2 7 (.t 18) (.t 12)) none,
    .mk4 10 (some 20) (.faddr 2 (.t 19)) none,
    .mk4 11 none (.store 1 (.t 20) (.t 15)) none] [0, 3, 4, 7]) (c41_0)
def c41_2 : AC :=
  .seq (.region 0 [.mk4 0 (some 8) (.bin .lss (.t 7) (.c (.i 2))) none] [0, 3, 7, 8]) (.seq (.cond (.t 8) (.skip) (.exit 0)) (.seq (.block 1 (.seq (.region 0 [.mk4 0 (some 9) (.mv (.t 7)) none,
    .mk4 1 (some 4) (.mv (.t 9)) none] [0, 3, 4, 7]) (c41_1))) (.region 0 [.mk4 0 (some 27) (.bin .add (.t 7) (.c (.i 1))) none,
    .mk4 1 (some 7) (.mv (.t 27)) none] [0, 3, 7])))
def c41_3 : AC :=
  .seq (.region 0 [.mk4 0 (some 5) (.build [.i 0, .i 0, .ptr none, .bool false, .bool false, .int .u64 0, .int .u64 0, .i 0, .i 0, .ptr none, .bool false, .bool false, .int .u64 0, .int .u64 0, .bool false, .i 0, .nils] []) none,
    .mk4 1 (some 6) (.box 17 (.t 5)) none,
    .mk4 2 (some 3) (.mv (.t 6)) none] [0, 3]) (.seq (.seq (.region 0 [.mk4 0 (some 7) (.mv (.c (.i 0))) none] [0, 3, 7]) (.block 0 (.loop [0, 3, 7] (c41_2)))) (.seq (.region 0 [.mk4 0 (some 28) (.mv (.t 3)) none,
    .mk4 1 (some 2) (.mv (.t 28)) none] [2]) (.ret)))
def c41 : AFn := ⟨1, 29, [.tmp 2],
  (.seq (.region 0 [.mk4 0 (some 2) (.mv (.c (.ptr none))) none] [0]) (c41_3))⟩
def c42_0 : AC :=
  .seq (.region 0 [.mk4 0 (some 27) (.mv (.t 0)) none,
    .mk4 1 (some 28) (.mv (.t 3)) none,
    .mk4 2 (some 29) (.mv (.t 10)) none,
    .mk4 3 (some 30) (.call 66 [(.t 27), (.t 28), (.t 29)]) none] [10]) (.seq (.region 0 [.mk4 0 (some 31) (.mv (.t 10)) none,
    .mk4 1 (some 8) (.mv (.t 31)) none,
    .mk4 2 (some 9) (.mv (.c (.i 0))) none] [8, 9]) (.ret))
def c42_1 : AC :=
  .seq (.region 0 [.mk4 0 (some 16) (.mv (.t 1)) none,
    .mk4 1 (some 17) (.call 64 [(.t 16)]) none,
    .mk4 2 (some 18) (.un .not (.t 17)) none,
    .mk4 3 (some 15) (.mv (.t 18)) none] [0, 2, 3, 15]) (.cond (.t 15) (.seq (.region 0 [.mk4 0 (some 8) (.mv (.c (.nils))) none,
    .mk4 1 (some 9) (.mv (.c (.i 2))) none] [8, 9]) (.ret)) (.skip))
def c42_2 : AC :=
  .seq (.region 0 [.mk4 0 (some 13) (.mv (.t 0)) none,
    .mk4 1 (some 14) (.call 59 [(.t 13)]) none,
    .mk4 2 (some 12) (.mv (.t 14)) none] [0, 1, 2, 3, 12]) (.cond (.t 12) (.seq (.region 0 [.mk4 0 (some 8) (.mv (.c (.nils))) none,
    .mk4 1 (some 9) (.mv (.c (.i 1))) none] [8, 9]) (.ret)) (c42_1))
def c42_3 : AC :=
  .seq (.region 0 [.mk4 0 (some 20) (.mv (.t 0)) none,
    .mk4 1 (some 21) (.mv (.t 2)) none,
    .mk4 2 (some 22) (.call 65 [(.t 20), (.t 21)]) none,
    .mk4 3 (some 19) (.mv (.t 22)) none,
    .mk4 4 (some 23) (.extract (.t 19) 0) none,
    .mk4 5 (some 24) (.extract (.t 19) 1) none,
    .mk4 6 (some 10) (.mv (.t 23)) none,
    .mk4 7 (some 11) (.mv (.t 24)) none] [0, 3, 10, 11]) (.seq (.seq (.region 0 [.mk4 0 (some 25) (.mv (.t 11)) none,
    .mk4 1 (some 26) (.un .not (.t 25)) none] [0, 3, 10, 26]) (.cond (.t 26) (.seq (.region 0 [.mk4 0 (some 8) (.mv (.c (.nils))) none,
    .mk4 1 (some 9) (.mv (.c (.i 112))) none] [8, 9]) (.ret)) (.skip))) (c42_0))
def c42 : AFn := ⟨4, 32, [.tmp 8, .tmp 9],
  (.seq (.region 0 [.mk4 0 (some 8) (.mv (.c (.nils))) none,
    .mk4 1 (some 9) (.mv (.c (.i 0))) none] [0, 1, 2, 3]) (.seq (.block 0 (c42_2)) (c42_3)))⟩
def c47_0 : AC :=
  .seq (.region 0 [.mk4 0 (some 5) (.mv (.t 0)) none,
    .mk4 1 (some 6) (.mv (.t 1)) none,
    .mk4 2 (some 7) (.bin .sub (.c (.i 1)) (.t 6)) none,
    .mk4 3 (some 8) (.nilck (.t 5)) none,
    .mk4 4 (some 9) (.faddr 0 (.t 8)) none,
    .mk4 5 (some 10) (.ixaA 2 7 (.t 9) (.t 7)) none,
    .mk4 6 (some 11) (.faddr 0 (.t 10)) none,
    .mk4 7 (some 12) (.load1 (.t 11)) none,
    .mk4 8 (some 13) (.bin .eql (.t 12) (.c (.i 3))) none,
    .mk4 9 (some 14) (.mv (.t 13)) none,
    .mk4 10 (some 15) (.mv (.t 0)) (some (14, false)),
    .mk4 11 (some 16) (.mv (.t 1)) (some (14, false)),
    .mk4 12 (some 17) (.bin .sub (.c (.i 1)) (.t 16)) (some (14, false)),
    .mk4 13 (some 18) (.nilck (.t 15)) (some (14, false)),
    .mk4 14 (some 19) (.faddr 0 (.t 18)) (some (14, false)),
    .mk4 15 (some 20) (.ixaA 2 7 (.t 19) (.t 17)) (some (14, false)),
    .mk4 16 (some 21) (.faddr 4 (.t 20)) (some (14, false)),
    .mk4 17 (some 22) (.load1 (.t 21)) (some (14, false)),
    .mk4 18 (some 23) (.pick (.t 14) (.c (.bool true)) (.t 22)) none,
    .mk4 19 (some 4) (.mv (.t 23)) none] [4]) (.ret)
def c47 : AFn := ⟨2, 24, [.tmp 4],
  (.seq (.region 0 [.mk4 0 (some 4) (.mv (.c (.bool false))) none] [0, 1]) (c47_0))⟩
def c48_0 : AC :=
  .seq (.seq (.region 0 [.mk4 0 (some 3) (.mv (.t 0)) none,
    .mk4 1 (some 4) (.call 69 [(.t 3)]) none] [0, 4]) (.cond (.t 4) (.seq (.region 0 [.mk4 0 (some 2) (.mv (.c (.i 0))) none] [2]) (.ret)) (.skip))) (.seq (.region 0 [.mk4 0 (some 5) (.mv (.t 0)) none,
    .mk4 1 (some 6) (.nilck (.t 5)) none,
    .mk4 2 (some 7) (.faddr 2 (.t 6)) none,
    .mk4 3 (some 8) (.load1 (.t 7)) none,
    .mk4 4 (some 2) (.mv (.t 8)) none] [2]) (.ret))
def c48 : AFn := ⟨1, 9, [.tmp 2],
  (.seq (.region 0 [.mk4 0 (some 2) (.mv (.c (.i 0))) none] [0]) (c48_0))⟩
def c49_0 : AC :=
  .seq (.region 0 [.mk4 0 (some 5) (.mv (.t 0)) none,
    .mk4 1 (some 6) (.nilck (.t 5)) none,
    .mk4 2 (some 7) (.faddr 0 (.t 6)) none,
    .mk4 3 (some 8) (.load1 (.t 7)) none,
    .mk4 4 (some 9) (.lenL (.t 8)) none,
    .mk4 5 (some 10) (.mv (.t 0)) none,
    .mk4 6 (some 11) (.nilck (.t 10)) none,
    .mk4 7 (some 12) (.faddr 2 (.t 11)) none,
    .mk4 8 (some 13) (.load1 (.t 12)) none,
    .mk4 9 (some 14) (.bin .sub (.t 9) (.t 13)) none,
    .mk4 10 (some 2) (.mv (.t 14)) none] [2]) (.ret)
def c49 : AFn := ⟨1, 15, [.tmp 2],
  (.seq (.region 0 [.mk4 0 (some 2) (.mv (.c (.i 0))) none] [0]) (.seq (.seq (.region 0 [.mk4 0 (some 3) (.mv (.t 0)) none,
    .mk4 1 (some 4) (.call 69 [(.t 3)]) none] [0, 4]) (.cond (.t 4) (.seq (.region 0 [.mk4 0 (some 2) (.mv (.c (.i 0))) none] [2]) (.ret)) (.skip))) (c49_0)))⟩
def c50_0 : AC :=
  .seq (.region 0 [.mk4 0 (some 17) (.load1 (.t 4)) none,
    .mk4 1 (some 18) (.mv (.t 10)) none,
    .mk4 2 (some 19) (.call 22 [(.t 17), (.t 18)]) none,
    .mk4 3 (some 20) (.field 0 none (.t 19)) none,
    .mk4 4 (some 21) (.un .not (.t 20)) none] [9, 21]) (.cond (.t 21) (.seq (.region 0 [.mk4 0 none (.store 1 (.t 9) (.c (.bool true))) none] []) (.exit 0)) (.skip))
def c50_1 : AC :=
  .seq (.seq (.region 0 [.mk4 0 (some 11) (.mv (.t 1)) none,
    .mk4 1 (some 12) (.loadN 2 (.t 6)) none,
    .mk4 2 (some 13) (.loadN 2 (.t 7)) none,
    .mk4 3 (some 14) (.call 51 [(.t 11), (.t 12), (.t 13)]) none] [4, 9, 14]) (.block 0 (.rangeFunc (.t 14) [15, 16] [4, 9] (.region 0 [.mk4 0 (some 10) (.mv (.t 15)) none] [4, 9, 10]) (.block 1 (c50_0))))) (.seq (.region 0 [.mk4 0 (some 22) (.load1 (.t 9)) none,
    .mk4 1 (some 8) (.mv (.t 22)) none] [8]) (.ret))
def c50_2 : AC :=
  .seq (.region 0 [.mk4 0 (some 4) (.box 1 (.t 0)) none,
    .mk4 1 (some 6) (.box 2 (.t 2)) none,
    .mk4 2 (some 7) (.box 2 (.t 3)) none,
    .mk4 3 (some 8) (.mv (.c (.bool false))) none] [1, 4, 6, 7]) (.scope (.seq (.region 0 [.mk4 0 (some 9) (.alloc 1 [.bool false]) none,
    .mk4 1 none (.store 1 (.t 9) (.c (.bool false))) none] [1, 4, 6, 7, 9]) (.seq (.label 0) (c50_1))))
def c50 : AFn := ⟨4, 23, [.tmp 8],
  (c50_2)⟩
def c51_0 : AC :=
  .seq (.region 0 [.mk4 0 (some 3) (.box 1 (.t 0)) none,
    .mk4 1 (some 4) (.box 2 (.t 1)) none,
    .mk4 2 (some 5) (.box 2 (.t 2)) none,
    .mk4 3 (some 6) (.mv (.c (.nilfn))) none] [3, 4, 5]) (.seq (.region 0 [.mk4 0 (some 7) (.mkClo 70 [(.t 4), (.t 5), (.t 3)]) none,
    .mk4 1 (some 6) (.mv (.t 7)) none] [6]) (.ret))
def c51 : AFn := ⟨3, 8, [.tmp 6],
  (c51_0)⟩
def c52_0 : AC :=
  .seq (.seq (.region 0 [.mk4 0 (some 16) (.faddr 2 (.t 1)) none,
    .mk4 1 (some 17) (.load1 (.t 16)) none,
    .mk4 2 (some 18) (.mv (.t 17)) none,
    .mk4 3 (some 19) (.faddr 3 (.t 1)) (some (18, false)),
    .mk4 4 (some 20) (.load1 (.t 19)) (some (18, false)),
    .mk4 5 (some 21) (.pick (.t 18) (.c (.bool true)) (.t 20)) none,
    .mk4 6 (some 22) (.mv (.t 21)) none,
    .mk4 7 (some 23) (.faddr 4 (.t 1)) (some (22, false)),
    .mk4 8 (some 24) (.load1 (.t 23)) (some (22, false)),
    .mk4 9 (some 25) (.pick (.t 22) (.c (.bool true)) (.t 24)) none] [3, 25]) (.cond (.t 25) (.region 0 [.mk4 0 (some 26) (.mv (.t 3)) none,
    .mk4 1 (some 27) (.bin .or (.t 26) (.c (.i 4))) none,
    .mk4 2 (some 3) (.mv (.t 27)) none] [3]) (.skip))) (.seq (.region 0 [.mk4 0 (some 28) (.mv (.t 3)) none,
    .mk4 1 (some 2) (.mv (.t 28)) none] [2]) (.ret))
def c52_1 : AC :=
  .seq (.seq (.region 0 [.mk4 0 (some 4) (.faddr 1 (.t 1)) none,
    .mk4 1 (some 5) (.load1 (.t 4)) none,
    .mk4 2 (some 6) (.mv (.t 5)) none,
    .mk4 3 (some 7) (.faddr 3 (.t 1)) (some (6, false)),
    .mk4 4 (some 8) (.load1 (.t 7)) (some (6, false)),
    .mk4 5 (some 9) (.pick (.t 6) (.c (.bool true)) (.t 8)) none,
    .mk4 6 (some 10) (.mv (.t 9)) none,
    .mk4 7 (some 11) (.faddr 4 (.t 1)) (some (10, false)),
    .mk4 8 (some 12) (.load1 (.t 11)) (some (10, false)),
    .mk4 9 (some 13) (.pick (.t 10) (.c (.bool true)) (.t 12)) none] [1, 3, 13]) (.cond (.t 13) (.region 0 [.mk4 0 (some 14) (.mv (.t 3)) none,
    .mk4 1 (some 15) (.bin .or (.t 14) (.c (.i 2))) none,
    .mk4 2 (some 3) (.mv (.t 15)) none] [1, 3]) (.skip))) (c52_0)
def c52 : AFn := ⟨1, 29, [.tmp 2],
  (.seq (.region 0 [.mk4 0 (some 1) (.box 7 (.t 0)) none,
    .mk4 1 (some 2) (.mv (.c (.i 0))) none] [1]) (.seq (.region 0 [.mk4 0 (some 3) (.mv (.c (.i 0))) none] [1, 3]) (c52_1)))⟩
def c53_0 : AC :=
  .seq (.region 0 [.mk4 0 (some 10) (.mv (.t 1)) none,
    .mk4 1 (some 11) (.bin .quo (.t 10) (.c (.i 32))) none,
    .mk4 2 (some 12) (.ixaA 2 1 (.t 2) (.t 11)) none,
    .mk4 3 (some 13) (.load1 (.t 12)) none,
    .mk4 4 (some 14) (.mv (.t 1)) none,
    .mk4 5 (some 15) (.bin .rem (.t 14) (.c (.i 32))) none,
    .mk4 6 (some 16) (.bin .shl (.c (.int .u32 1)) (.t 15)) none,
    .mk4 7 (some 17) (.bin .or (.t 13) (.t 16)) none,
    .mk4 8 (some 18) (.ixaA 2 1 (.t 2) (.t 11)) none,
    .mk4 9 none (.store 1 (.t 18) (.t 17)) none] [2, 4]) (.seq (.region 0 [.mk4 0 (some 19) (.loadN 2 (.t 2)) none,
    .mk4 1 none (.store 2 (.t 4) (.t 19)) none,
    .mk4 2 (some 5) (.mv (.c (.i 0))) none] [4, 5]) (.ret))
def c53_1 : AC :=
  .seq (.seq (.region 0 [.mk4 0 (some 6) (.mv (.t 1)) none,
    .mk4 1 (some 7) (.call 55 [(.t 6)]) none,
    .mk4 2 (some 8) (.un .not (.t 7)) none] [1, 2, 4, 8]) (.cond (.t 8) (.seq (.region 0 [.mk4 0 (some 9) (.build [.int .u32 0, .int .u32 0] []) none,
    .mk4 1 none (.store 2 (.t 4) (.t 9)) none,
    .mk4 2 (some 5) (.mv (.c (.i 10))) none] [4, 5]) (.ret)) (.skip))) (c53_0)
def c53 : AFn := ⟨2, 20, [.cellN 4 2, .tmp 5],
  (.seq (.region 0 [.mk4 0 (some 2) (.box 2 (.t 0)) none,
    .mk4 1 (some 4) (.alloc 2 [.int .u32 0, .int .u32 0]) none,
    .mk4 2 (some 5) (.mv (.c (.i 0))) none] [1, 2, 4]) (c53_1))⟩
def c54_0 : AC :=
  .seq (.seq (.region 0 [.mk4 0 (some 21) (.mv (.t 8)) none,
    .mk4 1 (some 22) (.bin .neq (.t 21) (.c (.i 0))) none] [2, 4, 7, 8, 9, 10, 11, 22]) (.cond (.t 22) (.seq (.region 0 [.mk4 0 (some 23) (.build [.int .u32 0, .int .u32 0] []) none,
    .mk4 1 (some 24) (.mv (.t 8)) none,
    .mk4 2 none (.store 2 (.t 2) (.t 23)) none,
    .mk4 3 (some 3) (.mv (.t 24)) none] [2, 3]) (.ret)) (.skip))) (.region 0 [.mk4 0 (some 25) (.loadN 2 (.t 7)) none,
    .mk4 1 none (.store 2 (.t 4) (.t 25)) none] [2, 4, 9, 10, 11])
def c54_1 : AC :=
  .seq (.region 0 [.mk4 0 (some 16) (.loadN 2 (.t 4)) none,
    .mk4 1 (some 17) (.mv (.t 6)) none,
    .mk4 2 (some 18) (.call 53 [(.t 16), (.t 17)]) none,
    .mk4 3 (some 15) (.mv (.t 18)) none,
    .mk4 4 (some 19) (.extract (.t 15) 0) none,
    .mk4 5 (some 20) (.extract (.t 15) 1) none,
    .mk4 6 (some 7) (.alloc 2 [.int .u32 0, .int .u32 0]) none,
    .mk4 7 none (.store 2 (.t 7) (.t 19)) none,
    .mk4 8 (some 8) (.mv (.t 20)) none] [2, 4, 7, 8, 9, 10, 11]) (c54_0)
def c54_2 : AC :=
  .seq (.block 1 (.seq (.region 0 [.mk4 0 (some 13) (.ixaS 1 (.t 9) (.t 11)) none,
    .mk4 1 (some 14) (.load1 (.t 13)) none,
    .mk4 2 (some 6) (.mv (.t 14)) none] [2, 4, 6, 9, 10, 11]) (c54_1))) (.region 0 [.mk4 0 (some 26) (.bin .add (.t 11) (.c (.i 1))) none,
    .mk4 1 (some 11) (.mv (.t 26)) none] [2, 4, 9, 10, 11])
def c54_3 : AC :=
  .seq (.seq (.region 0 [.mk4 0 (some 9) (.mv (.t 0)) none,
    .mk4 1 (some 10) (.lenL (.t 9)) none,
    .mk4 2 (some 11) (.mv (.c (.i 0))) none] [2, 4, 9, 10, 11]) (.block 0 (.loop [2, 4, 9, 10, 11] (.seq (.region 0 [.mk4 0 (some 12) (.bin .lss (.t 11) (.t 10)) none] [2, 4, 9, 10, 11, 12]) (.seq (.cond (.t 12) (.skip) (.exit 0)) (c54_2)))))) (.seq (.region 0 [.mk4 0 (some 27) (.loadN 2 (.t 4)) none,
    .mk4 1 none (.store 2 (.t 2) (.t 27)) none,
    .mk4 2 (some 3) (.mv (.c (.i 0))) none] [2, 3]) (.ret))
def c54 : AFn := ⟨1, 28, [.cellN 2 2, .tmp 3],
  (.seq (.region 0 [.mk4 0 (some 2) (.alloc 2 [.int .u32 0, .int .u32 0]) none,
    .mk4 1 (some 3) (.mv (.c (.i 0))) none] [0, 2]) (.seq (.region 0 [.mk4 0 (some 4) (.alloc 2 [.int .u32 0, .int .u32 0]) none] [0, 2, 4]) (c54_3)))⟩
def c55_0 : AC :=
  .seq (.region 0 [.mk4 0 (some 3) (.mv (.t 0)) none,
    .mk4 1 (some 4) (.bin .geq (.t 3) (.c (.i 0))) none,
    .mk4 2 (some 5) (.mv (.t 4)) none,
    .mk4 3 (some 6) (.mv (.t 0)) (some (5, true)),
    .mk4 4 (some 7) (.bin .lss (.t 6) (.c (.i 64))) (some (5, true)),
    .mk4 5 (some 8) (.pick (.t 5) (.t 7) (.c (.bool false))) none,
    .mk4 6 (some 2) (.mv (.t 8)) none] [2]) (.ret)
def c55 : AFn := ⟨1, 9, [.tmp 2],
  (.seq (.region 0 [.mk4 0 (some 2) (.mv (.c (.bool false))) none] [0]) (c55_0))⟩
def c56_0 : AC :=
  .seq (.region 0 [.mk4 0 (some 3) (.mv (.t 0)) none,
    .mk4 1 (some 4) (.bin .shr (.t 3) (.c (.int .u64 24))) none,
    .mk4 2 (some 5) (.ixStr (.c (.str [0, 1, 1, 2, 1, 2, 2, 3, 1, 2, 2, 3, 2, 3, 3, 4, 1, 2, 2, 3, 2, 3, 3, 4, 2, 3, 3, 4, 3, 4, 4, 5, 1, 2, 2, 3, 2, 3, 3, 4, 2, 3, 3, 4, 3, 4, 4, 5, 2, 3, 3, 4, 3, 4, 4, 5, 3, 4, 4, 5, 4, 5, 5, 6, 1, 2, 2, 3, 2, 3, 3, 4, 2, 3, 3, 4, 3, 4, 4, 5, 2, 3, 3, 4, 3, 4, 4, 5, 3, 4, 4, 5, 4, 5, 5, 6, 2, 3, 3, 4, 3, 4, 4, 5, 3, 4, 4, 5, 4, 5, 5, 6, 3, 4, 4, 5, 4, 5, 5, 6, 4, 5, 5, 6, 5, 6, 6, 7, 1, 2, 2, 3, 2, 3, 3, 4, 2, 3, 3, 4, 3, 4, 4, 5, 2, 3, 3, 4, 3, 4, 4, 5, 3, 4, 4, 5, 4, 5, 5, 6, 2, 3, 3, 4, 3, 4, 4, 5, 3, 4, 4, 5, 4, 5, 5, 6, 3, 4, 4, 5, 4, 5, 5, 6, 4, 5, 5, 6, 5, 6, 6, 7, 2, 3, 3, 4, 3, 4, 4, 5, 3, 4, 4, 5, 4, 5, 5, 6, 3, 4, 4, 5, 4, 5, 5, 6, 4, 5, 5, 6, 5, 6, 6, 7, 3, 4, 4, 5, 4, 5, 5, 6, 4, 5, 5, 6, 5, 6, 6, 7, 4, 5, 5, 6, 5, 6, 6, 7, 5, 6, 6, 7, 6, 7, 7, 8])) (.t 4)) none,
    .mk4 3 (some 6) (.mv (.t 0)) none,
    .mk4 4 (some 7) (.bin .shr (.t 6) (.c (.int .u64 16))) none,
    .mk4 5 (some 8) (.bin .and (.t 7) (.c (.int .u32 255))) none,
    .mk4 6 (some 9) (.ixStr (.c (.str [0, 1, 1, 2, 1, 2, 2, 3, 1, 2, 2, 3, 2, 3, 3, 4, 1, 2, 2, 3, 2, 3, 3, 4, 2, 3, 3, 4, 3, 4, 4, 5, 1, 2, 2, 3, 2, 3, 3, 4, 2, 3, 3, 4, 3, 4, 4, 5, 2, 3, 3, 4, 3, 4, 4, 5, 3, 4, 4, 5, 4, 5, 5, 6, 1, 2, 2, 3, 2, 3, 3, 4, 2, 3, 3, 4, 3, 4, 4, 5, 2, 3, 3, 4, 3, 4, 4, 5, 3, 4, 4, 5, 4, 5, 5, 6, 2, 3, 3, 4, 3, 4, 4, 5, 3, 4, 4, 5, 4, 5, 5, 6, 3, 4, 4, 5, 4, 5, 5, 6, 4, 5, 5, 6, 5, 6, 6, 7, 1, 2, 2, 3, 2, 3, 3, 4, 2, 3, 3, 4, 3, 4, 4, 5, 2, 3, 3, 4, 3, 4, 4, 5, 3, 4, 4, 5, 4, 5, 5, 6, 2, 3, 3, 4, 3, 4, 4, 5, 3, 4, 4, 5, 4, 5, 5, 6, 3, 4, 4, 5, 4, 5, 5, 6, 4, 5, 5, 6, 5, 6, 6, 7, 2, 3, 3, 4, 3, 4, 4, 5, 3, 4, 4, 5, 4, 5, 5, 6, 3, 4, 4, 5, 4, 5, 5, 6, 4, 5, 5, 6, 5, 6, 6, 7, 3, 4, 4, 5, 4, 5, 5, 6, 4, 5, 5, 6, 5, 6, 6, 7, 4, 5, 5, 6, 5, 6, 6, 7, 5, 6, 6, 7, 6, 7, 7, 8])) (.t 8)) none,
    .mk4 7 (some 10) (.bin .add (.t 5) (.t 9)) none,
    .mk4 8 (some 11) (.mv (.t 0)) none,
    .mk4 9 (some 12) (.bin .shr (.t 11) (.c (.int .u64 8))) none,
    .mk4 10 (some 13) (.bin .and (.t 12) (.c (.int .u32 255))) none,
    .mk4 11 (some 14) (.ixStr (.c (.str [0, 1, 1, 2, 1, 2, 2, 3, 1, 2, 2, 3, 2, 3, 3, 4, 1, 2, 2, 3, 2, 3, 3, 4, 2, 3, 3, 4, 3, 4, 4, 5, 1, 2, 2, 3, 2, 3, 3, 4, 2, 3, 3, 4, 3, 4, 4, 5, 2, 3, 3, 4, 3, 4, 4, 5, 3, 4, 4, 5, 4, 5, 5, 6, 1, 2, 2, 3, 2, 3, 3, 4, 2, 3, 3, 4, 3, 4, 4, 5, 2, 3, 3, 4, 3, 4, 4, 5, 3, 4, 4, 5, 4, 5, 5, 6, 2, 3, 3, 4, 3, 4, 4, 5, 3, 4, 4, 5, 4, 5, 5, 6, 3, 4, 4, 5, 4, 5, 5, 6, 4, 5, 5, 6, 5, 6, 6, 7, 1, 2, 2, 3, 2, 3, 3, 4, 2, 3, 3, 4, 3, 4, 4, 5, 2, 3, 3, 4, 3, 4, 4, 5, 3, 4, 4, 5, 4, 5, 5, 6, 2, 3, 3, 4, 3, 4, 4, 5, 3, 4, 4, 5, 4, 5, 5, 6, 3, 4, 4, 5, 4, 5, 5, 6, 4, 5, 5, 6, 5, 6, 6, 7, 2, 3, 3, 4, 3, 4, 4, 5, 3, 4, 4, 5, 4, 5, 5, 6, 3, 4, 4, 5, 4, 5, 5, 6, 4, 5, 5, 6, 5, 6, 6, 7, 3, 4, 4, 5, 4, 5, 5, 6, 4, 5, 5, 6, 5, 6, 6, 7, 4, 5, 5, 6, 5, 6, 6, 7, 5, 6, 6, 7, 6, 7, 7, 8])) (.t 13)) none,
    .mk4 12 (some 15) (.bin .add (.t 10) (.t 14)) none,
    .mk4 13 (some 16) (.mv (.t 0)) none,
    .mk4 14 (some 17) (.bin .and (.t 16) (.c (.int .u32 255))) none,
    .mk4 15 (some 18) (.ixStr (.c (.str [0, 1, 1, 2, 1, 2, 2, 3, 1, 2, 2, 3, 2, 3, 3, 4, 1, 2, 2, 3, 2, 3, 3, 4, 2, 3, 3, 4, 3, 4, 4, 5, 1, 2, 2, 3, 2, 3, 3, 4, 2, 3, 3, 4, 3, 4, 4, 5, 2, 3, 3, 4, 3, 4, 4, 5, 3, 4, 4, 5, 4, 5, 5, 6, 1, 2, 2, 3, 2, 3, 3, 4, 2, 3, 3, 4, 3, 4, 4, 5, 2, 3, 3, 4, 3, 4, 4, 5, 3, 4, 4, 5, 4, 5, 5, 6, 2, 3, 3, 4, 3, 4, 4, 5, 3, 4, 4, 5, 4, 5, 5, 6, 3, 4, 4, 5, 4, 5, 5, 6, 4, 5, 5, 6, 5, 6, 6, 7, 1, 2, 2, 3, 2, 3, 3, 4, 2, 3, 3, 4, 3, 4, 4, 5, 2, 3, 3, 4, 3, 4, 4, 5, 3, 4, 4, 5, 4, 5, 5, 6, 2, 3, 3, 4, 3, 4, 4, 5, 3, 4, 4, 5, 4, 5, 5, 6, 3, 4, 4, 5, 4, 5, 5, 6, 4, 5, 5, 6, 5, 6, 6, 7, 2, 3, 3, 4, 3, 4, 4, 5, 3, 4, 4, 5, 4, 5, 5, 6, 3, 4, 4, 5, 4, 5, 5, 6, 4, 5, 5, 6, 5, 6, 6, 7, 3, 4, 4, 5, 4, 5, 5, 6, 4, 5, 5, 6, 5, 6, 6, 7, 4, 5, 5, 6, 5, 6, 6, 7, 5, 6, 6, 7, 6, 7, 7, 8])) (.t 17)) none,
    .mk4 16 (some 19) (.bin .add (.t 15) (.t 18)) none,
    .mk4 17 (some 20) (.convInt .i64 (.t 19)) none,
    .mk4 18 (some 2) (.mv (.t 20)) none] [2]) (.ret)
def c56 : AFn := ⟨1, 21, [.tmp 2],
  (.seq (.region 0 [.mk4 0 (some 2) (.mv (.c (.i 0))) none] [0]) (c56_0))⟩
def c57_0 : AC :=
  .seq (.region 0 [.mk4 0 (some 5) (.ixaA 2 1 (.t 2) (.c (.i 0))) none,
    .mk4 1 (some 6) (.load1 (.t 5)) none,
    .mk4 2 (some 7) (.ixaA 2 1 (.t 3) (.c (.i 0))) none,
    .mk4 3 (some 8) (.load1 (.t 7)) none,
    .mk4 4 (some 9) (.bin .or (.t 6) (.t 8)) none,
    .mk4 5 (some 10) (.ixaA 2 1 (.t 2) (.c (.i 1))) none,
    .mk4 6 (some 11) (.load1 (.t 10)) none,
    .mk4 7 (some 12) (.ixaA 2 1 (.t 3) (.c (.i 1))) none,
    .mk4 8 (some 13) (.load1 (.t 12)) none,
    .mk4 9 (some 14) (.bin .or (.t 11) (.t 13)) none,
    .mk4 10 (some 15) (.build [.int .u32 0, .int .u32 0] [(0, 1, (.t 9)), (1, 1, (.t 14))]) none,
    .mk4 11 none (.store 2 (.t 4) (.t 15)) none] [4]) (.ret)
def c57 : AFn := ⟨2, 16, [.cellN 4 2],
  (.seq (.region 0 [.mk4 0 (some 2) (.box 2 (.t 0)) none,
    .mk4 1 (some 3) (.box 2 (.t 1)) none,
    .mk4 2 (some 4) (.alloc 2 [.int .u32 0, .int .u32 0]) none] [2, 3, 4]) (c57_0))⟩
def c58_0 : AC :=
  .seq (.region 0 [.mk4 0 (some 6) (.ixaA 2 1 (.t 1) (.c (.i 1))) none,
    .mk4 1 (some 7) (.load1 (.t 6)) none,
    .mk4 2 (some 8) (.call 73 [(.t 7)]) none,
    .mk4 3 (some 9) (.bin .add (.c (.i 32)) (.t 8)) none,
    .mk4 4 (some 10) (.bin .sub (.t 9) (.c (.i 1))) none,
    .mk4 5 (some 2) (.mv (.t 10)) none] [2]) (.ret)
def c58_1 : AC :=
  .seq (.seq (.region 0 [.mk4 0 (some 3) (.ixaA 2 1 (.t 1) (.c (.i 1))) none,
    .mk4 1 (some 4) (.load1 (.t 3)) none,
    .mk4 2 (some 5) (.bin .neq (.t 4) (.c (.int .u32 0))) none] [1, 5]) (.cond (.t 5) (c58_0) (.skip))) (.seq (.region 0 [.mk4 0 (some 11) (.ixaA 2 1 (.t 1) (.c (.i 0))) none,
    .mk4 1 (some 12) (.load1 (.t 11)) none,
    .mk4 2 (some 13) (.call 73 [(.t 12)]) none,
    .mk4 3 (some 14) (.bin .sub (.t 13) (.c (.i 1))) none,
    .mk4 4 (some 2) (.mv (.t 14)) none] [2]) (.ret))
def c58 : AFn := ⟨1, 15, [.tmp 2],
  (.seq (.region 0 [.mk4 0 (some 1) (.box 2 (.t 0)) none,
    .mk4 1 (some 2) (.mv (.c (.i 0))) none] [1]) (c58_1))⟩
def c59_0 : AC :=
  .seq (.region 0 [.mk4 0 (some 3) (.mv (.t 0)) none,
    .mk4 1 (some 4) (.eq .ptr false (.t 3) (.c (.ptr none))) none,
    .mk4 2 (some 5) (.mv (.t 4)) none,
    .mk4 3 (some 6) (.mv (.t 0)) (some (5, false)),
    .mk4 4 (some 7) (.nilck (.t 6)) (some (5, false)),
    .mk4 5 (some 8) (.faddr 289 (.t 7)) (some (5, false)),
    .mk4 6 (some 9) (.load1 (.t 8)) (some (5, false)),
    .mk4 7 (some 10) (.eq .ptr false (.t 9) (.c (.ptr none))) (some (5, false)),
    .mk4 8 (some 11) (.pick (.t 5) (.c (.bool true)) (.t 10)) none,
    .mk4 9 (some 2) (.mv (.t 11)) none] [2]) (.ret)
def c59 : AFn := ⟨1, 12, [.tmp 2],
  (.seq (.region 0 [.mk4 0 (some 2) (.mv (.c (.bool false))) none] [0]) (c59_0))⟩
def c60_0 : AC :=
  .region 0 [.mk4 0 (some 41) (.mv (.t 0)) none,
    .mk4 1 (some 42) (.mv (.t 1)) none,
    .mk4 2 (some 43) (.nilck (.t 41)) none,
    .mk4 3 (some 44) (.faddr 0 (.t 43)) none,
    .mk4 4 (some 45) (.ixaA 2 7 (.t 44) (.t 42)) none,
    .mk4 5 (some 46) (.faddr 6 (.t 45)) none,
    .mk4 6 (some 47) (.load1 (.t 46)) none,
    .mk4 7 (some 48) (.bin .add (.t 47) (.c (.int .u64 1))) none,
    .mk4 8 (some 49) (.nilck (.t 41)) none,
    .mk4 9 (some 50) (.faddr 0 (.t 49)) none,
    .mk4 10 (some 51) (.ixaA 2 7 (.t 50) (.t 42)) none,
    .mk4 11 (some 52) (.faddr 6 (.t 51)) none,
    .mk4 12 none (.store 1 (.t 52) (.t 48)) none] []
def c60_1 : AC :=
  .region 0 [.mk4 0 (some 19) (.mv (.t 0)) none,
    .mk4 1 (some 20) (.mv (.t 1)) none,
    .mk4 2 (some 21) (.nilck (.t 19)) none,
    .mk4 3 (some 22) (.faddr 0 (.t 21)) none,
    .mk4 4 (some 23) (.ixaA 2 7 (.t 22) (.t 20)) none,
    .mk4 5 (some 24) (.faddr 5 (.t 23)) none,
    .mk4 6 (some 25) (.load1 (.t 24)) none,
    .mk4 7 (some 26) (.bin .add (.t 25) (.c (.int .u64 1))) none,
    .mk4 8 (some 27) (.nilck (.t 19)) none,
    .mk4 9 (some 28) (.faddr 0 (.t 27)) none,
    .mk4 10 (some 29) (.ixaA 2 7 (.t 28) (.t 20)) none,
    .mk4 11 (some 30) (.faddr 5 (.t 29)) none,
    .mk4 12 none (.store 1 (.t 30) (.t 26)) none] [0, 1, 3]
def c60_2 : AC :=
  .seq (.region 0 [.mk4 0 (some 31) (.mv (.t 3)) none,
    .mk4 1 (some 32) (.mv (.t 31)) none,
    .mk4 2 (some 33) (.mv (.t 0)) (some (32, true)),
    .mk4 3 (some 34) (.mv (.t 1)) (some (32, true)),
    .mk4 4 (some 35) (.nilck (.t 33)) (some (32, true)),
    .mk4 5 (some 36) (.faddr 0 (.t 35)) (some (32, true)),
    .mk4 6 (some 37) (.ixaA 2 7 (.t 36) (.t 34)) (some (32, true)),
    .mk4 7 (some 38) (.faddr 3 (.t 37)) (some (32, true)),
    .mk4 8 (some 39) (.load1 (.t 38)) (some (32, true)),
    .mk4 9 (some 40) (.pick (.t 32) (.t 39) (.c (.bool false))) none] [0, 1, 40]) (.cond (.t 40) (c60_0) (.skip))
def c60_3 : AC :=
  .seq (.seq (.region 0 [.mk4 0 (some 8) (.mv (.t 2)) none,
    .mk4 1 (some 9) (.mv (.t 8)) none,
    .mk4 2 (some 10) (.mv (.t 0)) (some (9, true)),
    .mk4 3 (some 11) (.mv (.t 1)) (some (9, true)),
    .mk4 4 (some 12) (.nilck (.t 10)) (some (9, true)),
    .mk4 5 (some 13) (.faddr 0 (.t 12)) (some (9, true)),
    .mk4 6 (some 14) (.ixaA 2 7 (.t 13) (.t 11)) (some (9, true)),
    .mk4 7 (some 15) (.faddr 2 (.t 14)) (some (9, true)),
    .mk4 8 (some 16) (.load1 (.t 15)) (some (9, true)),
    .mk4 9 (some 17) (.eq .ptr true (.t 16) (.c (.ptr none))) (some (9, true)),
    .mk4 10 (some 18) (.pick (.t 9) (.t 17) (.c (.bool false))) none] [0, 1, 3, 18]) (.cond (.t 18) (c60_1) (.skip))) (c60_2)
def c60 : AFn := ⟨4, 53, [],
  (c60_3)⟩
def c63_0 : AC :=
  .seq (.region 0 [.mk4 0 (some 10) (.mv (.t 0)) none,
    .mk4 1 (some 11) (.mkSlice 1 1 [.int .u8 0] (.t 10) (.t 10)) none,
    .mk4 2 (some 12) (.build [.nils, .i 0, .i 0, .int .u64 0, .int .u64 0, .bool false] [(0, 1, (.t 11)), (5, 1, (.c (.bool true)))]) none,
    .mk4 3 (some 13) (.box 6 (.t 12)) none,
    .mk4 4 (some 2) (.mv (.t 13)) none,
    .mk4 5 (some 3) (.mv (.c (.i 0))) none] [2, 3]) (.ret)
def c63_1 : AC :=
  .seq (.seq (.region 0 [.mk4 0 (some 4) (.mv (.t 0)) none,
    .mk4 1 (some 5) (.bin .lss (.t 4) (.c (.i 0))) none,
    .mk4 2 (some 6) (.mv (.t 5)) none,
    .mk4 3 (some 7) (.mv (.t 0)) (some (6, false)),
    .mk4 4 (some 8) (.bin .gtr (.t 7) (.c (.i 65536))) (some (6, false)),
    .mk4 5 (some 9) (.pick (.t 6) (.c (.bool true)) (.t 8)) none] [0, 9]) (.cond (.t 9) (.seq (.region 0 [.mk4 0 (some 2) (.mv (.c (.ptr none))) none,
    .mk4 1 (some 3) (.mv (.c (.i 2))) none] [2, 3]) (.ret)) (.skip))) (c63_0)
def c63 : AFn := ⟨1, 14, [.tmp 2, .tmp 3],
  (.seq (.region 0 [.mk4 0 (some 2) (.mv (.c (.ptr none))) none,
    .mk4 1 (some 3) (.mv (.c (.i 0))) none] [0]) (c63_1))⟩
def c64_0 : AC :=
  .seq (.region 0 [.mk4 0 (some 3) (.mv (.t 0)) none,
    .mk4 1 (some 4) (.bin .geq (.t 3) (.c (.i 1))) none,
    .mk4 2 (some 5) (.mv (.t 4)) none,
    .mk4 3 (some 6) (.mv (.t 0)) (some (5, true)),
    .mk4 4 (some 7) (.bin .leq (.t 6) (.c (.i 65536))) (some (5, true)),
    .mk4 5 (some 8) (.pick (.t 5) (.t 7) (.c (.bool false))) none,
    .mk4 6 (some 2) (.mv (.t 8)) none] [2]) (.ret)
def c64 : AFn := ⟨1, 9, [.tmp 2],
  (.seq (.region 0 [.mk4 0 (some 2) (.mv (.c (.bool false))) none] [0]) (c64_0))⟩
def c65_0 : AC :=
  .seq (.seq (.region 0 [.mk4 0 (some 11) (.load1 (.t 6)) none,
    .mk4 1 (some 12) (.lenL (.t 11)) none,
    .mk4 2 (some 13) (.load1 (.t 3)) none,
    .mk4 3 (some 14) (.bin .eql (.t 12) (.t 13)) none] [6, 7, 14]) (.cond (.t 14) (.exit 0) (.skip))) (.region 0 [.mk4 0 (some 15) (.load1 (.t 6)) none,
    .mk4 1 (some 16) (.mv (.t 7)) none,
    .mk4 2 (some 17) (.bslice 1 1 [.i 0] [(0, (.t 16))]) none,
    .mk4 3 (some 18) (.append 1 8 (.t 15) (.t 17)) none,
    .mk4 4 none (.store 1 (.t 6) (.t 18)) none] [])
def c65_1 : AC :=
  .seq (.region 0 [.mk4 0 (some 19) (.load1 (.t 6)) none,
    .mk4 1 (some 20) (.load1 (.t 6)) none,
    .mk4 2 (some 21) (.lenL (.t 20)) none,
    .mk4 3 (some 22) (.load1 (.t 3)) none,
    .mk4 4 (some 23) (.bin .eql (.t 21) (.t 22)) none,
    .mk4 5 (some 24) (.mv (.t 23)) none,
    .mk4 6 (some 25) (.mv (.t 0)) (some (24, true)),
    .mk4 7 (some 26) (.nilck (.t 25)) (some (24, true)),
    .mk4 8 (some 27) (.faddr 288 (.t 26)) (some (24, true)),
    .mk4 9 (some 28) (.load1 (.t 27)) (some (24, true)),
    .mk4 10 (some 29) (.lenL (.t 28)) (some (24, true)),
    .mk4 11 (some 30) (.bin .lss (.t 29) (.c (.i 1000))) (some (24, true)),
    .mk4 12 (some 31) (.pick (.t 24) (.t 30) (.c (.bool false))) none,
    .mk4 13 (some 4) (.mv (.t 19)) none,
    .mk4 14 (some 5) (.mv (.t 31)) none] [4, 5]) (.ret)
def c65_2 : AC :=
  .scope (.seq (.region 0 [.mk4 0 (some 6) (.alloc 1 [.nils]) none] [0, 3, 6]) (.seq (.label 0) (.seq (.seq (.region 0 [.mk4 0 (some 8) (.mv (.t 0)) none,
    .mk4 1 (some 9) (.call 74 [(.t 8)]) none] [0, 3, 6, 9]) (.block 0 (.rangeFunc (.t 9) [10] [3, 6] (.region 0 [.mk4 0 (some 7) (.mv (.t 10)) none] [3, 6, 7]) (.block 1 (c65_0))))) (c65_1))))
def c65 : AFn := ⟨2, 32, [.tmp 4, .tmp 5],
  (.seq (.region 0 [.mk4 0 (some 3) (.box 1 (.t 1)) none,
    .mk4 1 (some 4) (.mv (.c (.nils))) none,
    .mk4 2 (some 5) (.mv (.c (.bool false))) none] [0, 3]) (c65_2))⟩
def c66_0 : AC :=
  .region 0 [.mk4 0 (some 28) (.mv (.t 0)) none,
    .mk4 1 (some 29) (.mv (.t 7)) none,
    .mk4 2 (some 30) (.mv (.t 0)) none,
    .mk4 3 (some 31) (.nilck (.t 30)) none,
    .mk4 4 (some 32) (.faddr 288 (.t 31)) none,
    .mk4 5 (some 33) (.load1 (.t 32)) none,
    .mk4 6 (some 34) (.lenL (.t 33)) none,
    .mk4 7 (some 35) (.mv (.t 6)) none,
    .mk4 8 (some 36) (.build [.bool false, .i 0, .i 0] [(0, 1, (.c (.bool true))), (1, 1, (.t 34)), (2, 1, (.t 35))]) none,
    .mk4 9 (some 37) (.nilck (.t 28)) none,
    .mk4 10 (some 38) (.faddr 0 (.t 37)) none,
    .mk4 11 (some 39) (.ixaA 96 3 (.t 38) (.t 29)) none,
    .mk4 12 none (.store 3 (.t 39) (.t 36)) none] [0, 1, 8, 9, 10]
def c66_1 : AC :=
  .seq (.region 0 [.mk4 0 (some 15) (.mv (.t 1)) none,
    .mk4 1 (some 16) (.mv (.t 6)) none,
    .mk4 2 (some 17) (.mv (.t 1)) none,
    .mk4 3 (some 18) (.mv (.t 6)) none,
    .mk4 4 (some 19) (.mv (.t 7)) none,
    .mk4 5 (some 20) (.nilck (.t 15)) none,
    .mk4 6 (some 21) (.faddr 0 (.t 20)) none,
    .mk4 7 (some 22) (.ixaA 2 7 (.t 21) (.t 16)) none,
    .mk4 8 (some 23) (.faddr 0 (.t 22)) none,
    .mk4 10 (some 24) (.nilck (.t 17)) none,
    .mk4 11 (some 25) (.faddr 0 (.t 24)) none,
    .mk4 9 none (.store 1 (.t 23) (.c (.i 1))) none,
    .mk4 12 (some 26) (.ixaA 2 7 (.t 25) (.t 18)) none,
    .mk4 13 (some 27) (.faddr 1 (.t 26)) none,
    .mk4 14 none (.store 1 (.t 27) (.t 19)) none] [0, 1, 6, 7, 8, 9, 10]) (c66_0)
def c66_2 : AC :=
  .seq (.block 1 (.seq (.region 0 [.mk4 0 (some 12) (.mv (.t 10)) none,
    .mk4 1 (some 13) (.ixaS 1 (.t 8) (.t 10)) none,
    .mk4 2 (some 14) (.load1 (.t 13)) none,
    .mk4 3 (some 6) (.mv (.t 12)) none,
    .mk4 4 (some 7) (.mv (.t 14)) none] [0, 1, 6, 7, 8, 9, 10]) (c66_1))) (.region 0 [.mk4 0 (some 40) (.bin .add (.t 10) (.c (.i 1))) none,
    .mk4 1 (some 10) (.mv (.t 40)) none] [0, 1, 8, 9, 10])
def c66_3 : AC :=
  .region 0 [.mk4 0 (some 41) (.mv (.t 0)) none,
    .mk4 1 (some 42) (.mv (.t 0)) none,
    .mk4 2 (some 43) (.nilck (.t 42)) none,
    .mk4 3 (some 44) (.faddr 288 (.t 43)) none,
    .mk4 4 (some 45) (.load1 (.t 44)) none,
    .mk4 5 (some 46) (.mv (.t 1)) none,
    .mk4 6 (some 47) (.bslice 1 1 [.ptr none] [(0, (.t 46))]) none,
    .mk4 7 (some 48) (.append 1 8 (.t 45) (.t 47)) none,
    .mk4 8 (some 49) (.nilck (.t 41)) none,
    .mk4 9 (some 50) (.faddr 288 (.t 49)) none,
    .mk4 10 none (.store 1 (.t 50) (.t 48)) none] []
def c66_4 : AC :=
  .seq (.seq (.region 0 [.mk4 0 (some 8) (.mv (.t 2)) none,
    .mk4 1 (some 9) (.lenL (.t 8)) none,
    .mk4 2 (some 10) (.mv (.c (.i 0))) none] [0, 1, 8, 9, 10]) (.block 0 (.loop [0, 1, 8, 9, 10] (.seq (.region 0 [.mk4 0 (some 11) (.bin .lss (.t 10) (.t 9)) none] [0, 1, 8, 9, 10, 11]) (.seq (.cond (.t 11) (.skip) (.exit 0)) (c66_2)))))) (c66_3)
def c66 : AFn := ⟨3, 51, [],
  (c66_4)⟩
def c69_0 : AC :=
  .seq (.region 0 [.mk4 0 (some 3) (.mv (.t 0)) none,
    .mk4 1 (some 4) (.eq .ptr false (.t 3) (.c (.ptr none))) none,
    .mk4 2 (some 5) (.mv (.t 4)) none,
    .mk4 3 (some 6) (.mv (.t 0)) (some (5, false)),
    .mk4 4 (some 7) (.nilck (.t 6)) (some (5, false)),
    .mk4 5 (some 8) (.faddr 5 (.t 7)) (some (5, false)),
    .mk4 6 (some 9) (.load1 (.t 8)) (some (5, false)),
    .mk4 7 (some 10) (.un .not (.t 9)) (some (5, false)),
    .mk4 8 (some 11) (.pick (.t 5) (.c (.bool true)) (.t 10)) none,
    .mk4 9 (some 2) (.mv (.t 11)) none] [2]) (.ret)
def c69 : AFn := ⟨1, 12, [.tmp 2],
  (.seq (.region 0 [.mk4 0 (some 2) (.mv (.c (.bool false))) none] [0]) (c69_0))⟩
def c70_0 : AC :=
  .seq (.seq (.region 0 [.mk4 0 (some 24) (.loadN 2 (.t 2)) none,
    .mk4 1 (some 25) (.mv (.t 6)) none,
    .mk4 2 (some 26) (.call 31 [(.t 24), (.t 25)]) none] [0, 1, 2, 6, 7, 13, 14, 15, 26]) (.cond (.t 26) (.region 0 [.mk4 0 (some 27) (.mv (.t 7)) none,
    .mk4 1 (some 28) (.bin .or (.t 27) (.c (.i 4))) none,
    .mk4 2 (some 7) (.mv (.t 28)) none] [0, 1, 2, 6, 7, 13, 14, 15]) (.skip))) (.seq (.region 0 [.mk4 0 (some 29) (.mv (.t 0)) none,
    .mk4 1 (some 30) (.mv (.t 6)) none,
    .mk4 2 (some 31) (.mv (.t 7)) none,
    .mk4 3 (some 32) (.callv (.t 29) [(.t 30), (.t 31)]) none,
    .mk4 4 (some 33) (.un .not (.t 32)) none] [0, 1, 2, 13, 14, 15, 33]) (.cond (.t 33) (.ret) (.skip)))
def c70_1 : AC :=
  .seq (.seq (.region 0 [.mk4 0 (some 19) (.loadN 2 (.t 1)) none,
    .mk4 1 (some 20) (.mv (.t 6)) none,
    .mk4 2 (some 21) (.call 31 [(.t 19), (.t 20)]) none] [0, 1, 2, 6, 7, 13, 14, 15, 21]) (.cond (.t 21) (.region 0 [.mk4 0 (some 22) (.mv (.t 7)) none,
    .mk4 1 (some 23) (.bin .or (.t 22) (.c (.i 2))) none,
    .mk4 2 (some 7) (.mv (.t 23)) none] [0, 1, 2, 6, 7, 13, 14, 15]) (.skip))) (c70_0)
def c70_2 : AC :=
  .seq (.block 1 (.seq (.region 0 [.mk4 0 (some 17) (.ixaS 1 (.t 13) (.t 15)) none,
    .mk4 1 (some 18) (.load1 (.t 17)) none,
    .mk4 2 (some 6) (.mv (.t 18)) none] [0, 1, 2, 6, 13, 14, 15]) (.seq (.region 0 [.mk4 0 (some 7) (.mv (.c (.i 0))) none] [0, 1, 2, 6, 7, 13, 14, 15]) (c70_1)))) (.region 0 [.mk4 0 (some 34) (.bin .add (.t 15) (.c (.i 1))) none,
    .mk4 1 (some 15) (.mv (.t 34)) none] [0, 1, 2, 13, 14, 15])
def c70_3 : AC :=
  .seq (.region 0 [.mk4 0 (some 8) (.loadN 2 (.t 1)) none,
    .mk4 1 (some 9) (.loadN 2 (.t 2)) none,
    .mk4 3 (some 11) (.load1 (.t 3)) none,
    .mk4 7 (some 15) (.mv (.c (.i 0))) none,
    ⟨2, (some 10), .call 57 [(.t 8), (.t 9)], none, none, [(11, .load1 (.t 3), none)]⟩,
    .mk4 4 (some 12) (.call 71 [(.t 10), (.t 11)]) none,
    .mk4 5 (some 13) (.call 72 [(.t 12)]) none,
    .mk4 6 (some 14) (.lenL (.t 13)) none] [0, 1, 2, 13, 14, 15]) (.block 0 (.loop [0, 1, 2, 13, 14, 15] (.seq (.region 0 [.mk4 0 (some 16) (.bin .lss (.t 15) (.t 14)) none] [0, 1, 2, 13, 14, 15, 16]) (.seq (.cond (.t 16) (.skip) (.exit 0)) (c70_2)))))
def c70 : AFn := ⟨4, 35, [],
  (c70_3)⟩
def c71_0 : AC :=
  .seq (.region 0 [.mk4 0 (some 9) (.mv (.t 5)) none,
    .mk4 1 (some 10) (.load1 (.t 3)) none,
    .mk4 2 (some 11) (.bin .geq (.t 9) (.t 10)) none] [2, 5, 11]) (.cond (.t 11) (.region 0 [.mk4 0 (some 12) (.loadN 2 (.t 2)) none,
    .mk4 1 (some 13) (.mv (.t 5)) none,
    .mk4 2 (some 14) (.call 78 [(.t 12), (.t 13)]) none,
    .mk4 3 none (.store 2 (.t 2) (.t 14)) none] []) (.skip))
def c71_1 : AC :=
  .seq (.seq (.region 0 [.mk4 0 (some 6) (.loadN 2 (.t 2)) none,
    .mk4 1 (some 7) (.call 77 [(.t 6)]) none] [2, 3, 4, 7]) (.block 0 (.rangeFunc (.t 7) [8] [2, 3] (.region 0 [.mk4 0 (some 5) (.mv (.t 8)) none] [2, 3, 5]) (.block 1 (c71_0))))) (.seq (.region 0 [.mk4 0 (some 15) (.loadN 2 (.t 2)) none,
    .mk4 1 none (.store 2 (.t 4) (.t 15)) none] [4]) (.ret))
def c71 : AFn := ⟨2, 16, [.cellN 4 2],
  (.seq (.region 0 [.mk4 0 (some 2) (.box 2 (.t 0)) none,
    .mk4 1 (some 3) (.box 1 (.t 1)) none,
    .mk4 2 (some 4) (.alloc 2 [.int .u32 0, .int .u32 0]) none] [2, 3, 4]) (c71_1))⟩
def c72_0 : AC :=
  .seq (.region 0 [.mk4 0 (some 1) (.box 2 (.t 0)) none,
    .mk4 1 (some 2) (.mv (.c (.nils))) none] [1]) (.seq (.region 0 [.mk4 0 (some 3) (.loadN 2 (.t 1)) none,
    .mk4 1 (some 4) (.call 77 [(.t 3)]) none,
    .mk4 2 (some 5) (.call 79 [(.t 4)]) none,
    .mk4 3 (some 2) (.mv (.t 5)) none] [2]) (.ret))
def c72 : AFn := ⟨1, 6, [.tmp 2],
  (c72_0)⟩
def c73_0 : AC :=
  .seq (.region 0 [.mk4 0 (some 9) (.mv (.t 0)) none,
    .mk4 1 (some 10) (.bin .shr (.t 9) (.c (.int .u64 8))) none,
    .mk4 2 (some 0) (.mv (.t 10)) none] [0, 2]) (.region 0 [.mk4 0 (some 11) (.mv (.t 2)) none,
    .mk4 1 (some 12) (.bin .add (.t 11) (.c (.i 8))) none,
    .mk4 2 (some 2) (.mv (.t 12)) none] [0, 2])
def c73_1 : AC :=
  .seq (.region 0 [.mk4 0 (some 13) (.mv (.t 2)) none,
    .mk4 1 (some 14) (.mv (.t 0)) none,
    .mk4 2 (some 15) (.convInt .u8 (.t 14)) none,
    .mk4 3 (some 16) (.ixStr (.c (.str [0, 1, 2, 2, 3, 3, 3, 3, 4, 4, 4, 4, 4, 4, 4, 4, 5, 5, 5, 5, 5, 5, 5, 5, 5, 5, 5, 5, 5, 5, 5, 5, 6, 6, 6, 6, 6, 6, 6, 6, 6, 6, 6, 6, 6, 6, 6, 6, 6, 6, 6, 6, 6, 6, 6, 6, 6, 6, 6, 6, 6, 6, 6, 6, 7, 7, 7, 7, 7, 7, 7, 7, 7, 7, 7, 7, 7, 7, 7, 7, 7, 7, 7, 7, 7, 7, 7, 7, 7, 7, 7, 7, 7, 7, 7, 7, 7, 7, 7, 7, 7, 7, 7, 7, 7, 7, 7, 7, 7, 7, 7, 7, 7, 7, 7, 7, 7, 7, 7, 7, 7, 7, 7, 7, 7, 7, 7, 7, 8, 8, 8, 8, 8, 8, 8, 8, 8, 8, 8, 8, 8, 8, 8, 8, 8, 8, 8, 8, 8, 8, 8, 8, 8, 8, 8, 8, 8, 8, 8, 8, 8, 8, 8, 8, 8, 8, 8, 8, 8, 8, 8, 8, 8, 8, 8, 8, 8, 8, 8, 8, 8, 8, 8, 8, 8, 8, 8, 8, 8, 8, 8, 8, 8, 8, 8, 8, 8, 8, 8, 8, 8, 8, 8, 8, 8, 8, 8, 8, 8, 8, 8, 8, 8, 8, 8, 8, 8, 8, 8, 8, 8, 8, 8, 8, 8, 8, 8, 8, 8, 8, 8, 8, 8, 8, 8, 8, 8, 8, 8, 8, 8, 8, 8, 8, 8, 8, 8, 8, 8, 8, 8, 8, 8, 8, 8, 8])) (.t 15)) none,
    .mk4 4 (some 17) (.convInt .i64 (.t 16)) none,
    .mk4 5 (some 18) (.bin .add (.t 13) (.t 17)) none,
    .mk4 6 (some 2) (.mv (.t 18)) none] [2]) (.ret)
def c73_2 : AC :=
  .seq (.seq (.region 0 [.mk4 0 (some 3) (.mv (.t 0)) none,
    .mk4 1 (some 4) (.bin .geq (.t 3) (.c (.int .u32 65536))) none] [0, 2, 4]) (.cond (.t 4) (.seq (.region 0 [.mk4 0 (some 5) (.mv (.t 0)) none,
    .mk4 1 (some 6) (.bin .shr (.t 5) (.c (.int .u64 16))) none,
    .mk4 2 (some 0) (.mv (.t 6)) none] [0]) (.region 0 [.mk4 0 (some 2) (.mv (.c (.i 16))) none] [0, 2])) (.skip))) (.seq (.seq (.region 0 [.mk4 0 (some 7) (.mv (.t 0)) none,
    .mk4 1 (some 8) (.bin .geq (.t 7) (.c (.int .u32 256))) none] [0, 2, 8]) (.cond (.t 8) (c73_0) (.skip))) (c73_1))
def c73 : AFn := ⟨1, 19, [.tmp 2],
  (.seq (.region 0 [.mk4 0 (some 2) (.mv (.c (.i 0))) none] [0, 2]) (c73_2))⟩
def c74 : AFn := ⟨1, 4, [.tmp 2],
  (.seq (.region 0 [.mk4 0 (some 1) (.box 1 (.t 0)) none,
    .mk4 1 (some 2) (.mv (.c (.nilfn))) none] [1]) (.seq (.region 0 [.mk4 0 (some 3) (.mkClo 80 [(.t 1)]) none,
    .mk4 1 (some 2) (.mv (.t 3)) none] [2]) (.ret)))⟩
def c77 : AFn := ⟨1, 4, [.tmp 2],
  (.seq (.region 0 [.mk4 0 (some 1) (.box 2 (.t 0)) none,
    .mk4 1 (some 2) (.mv (.c (.nilfn))) none] [1]) (.seq (.region 0 [.mk4 0 (some 3) (.mkClo 82 [(.t 1)]) none,
    .mk4 1 (some 2) (.mv (.t 3)) none] [2]) (.ret)))⟩
def c78_0 : AC :=
  .region 0 [.mk4 0 (some 7) (.mv (.t 1)) none,
    .mk4 1 (some 8) (.bin .quo (.t 7) (.c (.i 32))) none,
    .mk4 2 (some 9) (.ixaA 2 1 (.t 2) (.t 8)) none,
    .mk4 3 (some 10) (.load1 (.t 9)) none,
    .mk4 4 (some 11) (.mv (.t 1)) none,
    .mk4 5 (some 12) (.bin .rem (.t 11) (.c (.i 32))) none,
    .mk4 6 (some 13) (.bin .shl (.c (.int .u32 1)) (.t 12)) none,
    .mk4 7 (some 14) (.bin .andNot (.t 10) (.t 13)) none,
    .mk4 8 (some 15) (.ixaA 2 1 (.t 2) (.t 8)) none,
    .mk4 9 none (.store 1 (.t 15) (.t 14)) none] [2, 4]
def c78_1 : AC :=
  .seq (.region 0 [.mk4 0 (some 2) (.box 2 (.t 0)) none,
    .mk4 1 (some 4) (.alloc 2 [.int .u32 0, .int .u32 0]) none] [1, 2, 4]) (.seq (.seq (.region 0 [.mk4 0 (some 5) (.mv (.t 1)) none,
    .mk4 1 (some 6) (.call 55 [(.t 5)]) none] [1, 2, 4, 6]) (.cond (.t 6) (c78_0) (.skip))) (.seq (.region 0 [.mk4 0 (some 16) (.loadN 2 (.t 2)) none,
    .mk4 1 none (.store 2 (.t 4) (.t 16)) none] [4]) (.ret)))
def c78 : AFn := ⟨2, 17, [.cellN 4 2],
  (c78_1)⟩
def c79 : AFn := ⟨1, 5, [.tmp 2],
  (.seq (.region 0 [.mk4 0 (some 2) (.mv (.c (.nils))) none] [0]) (.seq (.region 0 [.mk4 0 (some 3) (.mv (.t 0)) none,
    .mk4 1 (some 4) (.call 83 [(.c (.nils)), (.t 3)]) none,
    .mk4 2 (some 2) (.mv (.t 4)) none] [2]) (.ret)))⟩
def c80_0 : AC :=
  .seq (.region 0 [.mk4 0 (some 13) (.faddr 0 (.t 4)) none,
    .mk4 1 (some 14) (.load1 (.t 13)) none,
    .mk4 2 (some 15) (.un .not (.t 14)) none,
    .mk4 3 (some 16) (.mv (.t 15)) none,
    .mk4 4 (some 17) (.mv (.t 0)) (some (16, true)),
    .mk4 5 (some 18) (.mv (.t 3)) (some (16, true)),
    .mk4 6 (some 19) (.callv (.t 17) [(.t 18)]) (some (16, true)),
    .mk4 7 (some 20) (.un .not (.t 19)) (some (16, true)),
    .mk4 8 (some 21) (.pick (.t 16) (.t 20) (.c (.bool false))) none] [0, 8, 9, 21]) (.cond (.t 21) (.ret) (.skip))
def c80_1 : AC :=
  .seq (.block 1 (.seq (.region 0 [.mk4 0 (some 11) (.mv (.t 9)) none,
    .mk4 1 (some 12) (.ixA 96 3 (some 3) (.t 8) (.t 9)) none,
    .mk4 2 (some 4) (.alloc 3 [.bool false, .i 0, .i 0]) none,
    .mk4 3 (some 3) (.mv (.t 11)) none,
    .mk4 4 none (.store 3 (.t 4) (.t 12)) none] [0, 3, 4, 8, 9]) (c80_0))) (.region 0 [.mk4 0 (some 22) (.bin .add (.t 9) (.c (.i 1))) none,
    .mk4 1 (some 9) (.mv (.t 22)) none] [0, 8, 9])
def c80_2 : AC :=
  .seq (.region 0 [.mk4 0 (some 5) (.load1 (.t 1)) none,
    .mk4 1 (some 6) (.nilck (.t 5)) none,
    .mk4 2 (some 7) (.faddr 0 (.t 6)) none,
    .mk4 3 (some 8) (.loadN 288 (.t 7)) none,
    .mk4 4 (some 9) (.mv (.c (.i 0))) none] [0, 8, 9]) (.block 0 (.loop [0, 8, 9] (.seq (.region 0 [.mk4 0 (some 10) (.bin .lss (.t 9) (.c (.i 96))) none] [0, 8, 9, 10]) (.seq (.cond (.t 10) (.skip) (.exit 0)) (c80_1)))))
def c80 : AFn := ⟨2, 23, [],
  (c80_2)⟩
def c82_0 : AC :=
  .seq (.region 0 [.mk4 0 (some 7) (.loadN 2 (.t 1)) none,
    .mk4 1 (some 8) (.mv (.t 3)) none,
    .mk4 2 (some 9) (.call 31 [(.t 7), (.t 8)]) none,
    .mk4 3 (some 10) (.mv (.t 9)) none,
    .mk4 4 (some 11) (.mv (.t 0)) (some (10, true)),
    .mk4 5 (some 12) (.mv (.t 3)) (some (10, true)),
    .mk4 6 (some 13) (.callv (.t 11) [(.t 12)]) (some (10, true)),
    .mk4 7 (some 14) (.un .not (.t 13)) (some (10, true)),
    .mk4 8 (some 15) (.pick (.t 10) (.t 14) (.c (.bool false))) none] [0, 1, 4, 15]) (.cond (.t 15) (.ret) (.skip))
def c82_1 : AC :=
  .seq (.region 0 [.mk4 0 (some 5) (.bin .lss (.t 4) (.c (.i 64))) none] [0, 1, 4, 5]) (.seq (.cond (.t 5) (.skip) (.exit 0)) (.seq (.block 1 (.seq (.region 0 [.mk4 0 (some 6) (.mv (.t 4)) none,
    .mk4 1 (some 3) (.mv (.t 6)) none] [0, 1, 3, 4]) (c82_0))) (.region 0 [.mk4 0 (some 16) (.bin .add (.t 4) (.c (.i 1))) none,
    .mk4 1 (some 4) (.mv (.t 16)) none] [0, 1, 4])))
def c82 : AFn := ⟨2, 17, [],
  (.seq (.region 0 [.mk4 0 (some 4) (.mv (.c (.i 0))) none] [0, 1, 4]) (.block 0 (.loop [0, 1, 4] (c82_1))))⟩
def c83_0 : AC :=
  .rangeFunc (.t 6) [7] [2] (.region 0 [.mk4 0 (some 5) (.mv (.t 7)) none] [2, 5]) (.block 1 (.region 0 [.mk4 0 (some 8) (.load1 (.t 2)) none,
    .mk4 1 (some 9) (.mv (.t 5)) none,
    .mk4 2 (some 10) (.bslice 1 1 [.i 0] [(0, (.t 9))]) none,
    .mk4 3 (some 11) (.append 1 8 (.t 8) (.t 10)) none,
    .mk4 4 none (.store 1 (.t 2) (.t 11)) none] []))
def c83_1 : AC :=
  .seq (.region 0 [.mk4 0 (some 2) (.box 1 (.t 0)) none,
    .mk4 1 (some 4) (.mv (.c (.nils))) none] [1, 2]) (.seq (.seq (.region 0 [.mk4 0 (some 6) (.mv (.t 1)) none] [2, 6]) (.block 0 (c83_0))) (.seq (.region 0 [.mk4 0 (some 12) (.load1 (.t 2)) none,
    .mk4 1 (some 4) (.mv (.t 12)) none] [4]) (.ret)))
def c83 : AFn := ⟨2, 13, [.tmp 4],
  (c83_1)⟩
def prog : Prog := { fns := [(6, c6), (8, c8), (17, c17), (18, c18), (22, c22), (27, c27), (28, c28), (29, c29), (30, c30), (31, c31), (32, c32), (33, c33), (34, c34), (35, c35), (36, c36), (37, c37), (40, c40), (41, c41), (42, c42), (47, c47), (48, c48), (49, c49), (50, c50), (51, c51), (52, c52), (53, c53), (54, c54), (55, c55), (56, c56), (57, c57), (58, c58), (59, c59), (60, c60), (63, c63), (64, c64), (65, c65), (66, c66), (69, c69), (70, c70), (71, c71), (72, c72), (73, c73), (74, c74), (77, c77), (78, c78), (79, c79), (80, c80), (82, c82), (83, c83)], prims := [] }
def cx : Cx := ⟨[(3, ⟨.int .i64, 1, 8, (some (.i 0)), false⟩),
  (4, ⟨.bool, 1, 1, (some (.bool false)), false⟩),
  (5, ⟨.int .u8, 1, 1, (some (.int .u8 0)), false⟩),
  (9, ⟨.str, 1, 16, (some (.str [])), false⟩),
  (22, ⟨.ptr 77, 1, 8, (some (.ptr none)), false⟩),
  (24, ⟨.int .i64, 1, 8, (some (.i 0)), false⟩),
  (26, ⟨.slice 3, 1, 24, (some (.nils)), false⟩),
  (39, ⟨.slice 5, 1, 24, (some (.nils)), false⟩),
  (45, ⟨.int .u64, 1, 8, (some (.int .u64 0)), false⟩),
  (47, ⟨.struct [(0, 4), (1, 4), (2, 4), (3, 4), (4, 4), (5, 45), (6, 45)], 7, 24, (some (.agg [.bool false, .bool false, .bool false, .bool false, .bool false, .int .u64 0, .int .u64 0])), false⟩),
  (58, ⟨.int .u32, 1, 4, (some (.int .u32 0)), false⟩),
  (60, ⟨.array 2 58, 2, 8, (some (.agg [.int .u32 0, .int .u32 0])), false⟩),
  (69, ⟨.struct [(0, 4), (1, 3), (2, 3)], 3, 24, (some (.agg [.bool false, .i 0, .i 0])), false⟩),
  (70, ⟨.ptr 84, 1, 8, (some (.ptr none)), false⟩),
  (73, ⟨.array 96 69, 288, 2304, (some (.agg (List.replicate 96 ([.bool false, .i 0, .i 0] : List V)).flatten)), false⟩),
  (74, ⟨.slice 70, 1, 24, (some (.nils)), false⟩),
  (75, ⟨.ptr 111, 1, 8, (some (.ptr none)), false⟩),
  (77, ⟨.struct [(0, 73), (288, 74), (289, 75), (290, 45), (291, 69)], 294, 2368, (some (.agg [.bool false, .i 0, .i 0, .bool false, .i 0, .i 0, .bool false, .i 0, .i 0, .bool false, .i 0, .i 0, .bool false, .i 0, .i 0, .bool false, .i 0, .i 0, .bool false, .i 0, .i 0, .bool false, .i 0, .i 0, .bool false, .i 0, .i 0, .bool false, .i 0, .i 0, .bool false, .i 0, .i 0, .bool false, .i 0, .i 0, .bool false, .i 0, .i 0, .bool false, .i 0, .i 0, .bool false, .i 0, .i 0, .bool false, .i 0, .i 0, .bool false, .i 0, .i 0, .bool false, .i 0, .i 0, .bool false, .i 0, .i 0, .bool false, .i 0, .i 0, .bool false, .i 0, .i 0, .bool false, .i 0, .i 0, .bool false, .i 0, .i 0, .bool false, .i 0, .i 0, .bool false, .i 0, .i 0, .bool false, .i 0, .i 0, .bool false, .i 0, .i 0, .bool false, .i 0, .i 0, .bool false, .i 0, .i 0, .bool false, .i 0, .i 0, .bool false, .i 0, .i 0, .bool false, .i 0, .i 0, .bool false, .i 0, .i 0, .bool false, .i 0, .i 0, .bool false, .i 0, .i 0, .bool false, .i 0, .i 0, .bool false, .i 0, .i 0, .bool false, .i 0, .i 0, .bool false, .i 0, .i 0, .bool false, .i 0, .i 0, .bool false, .i 0, .i 0, .bool false, .i 0, .i 0, .bool false, .i 0, .i 0, .bool false, .i 0, .i 0, .bool false, .i 0, .i 0, .bool false, .i 0, .i 0, .bool false, .i 0, .i 0, .bool false, .i 0, .i 0, .bool false, .i 0, .i 0, .bool false, .i 0, .i 0, .bool false, .i 0, .i 0, .bool false, .i 0, .i 0, .bool false, .i 0, .i 0, .bool false, .i 0, .i 0, .bool false, .i 0, .i 0, .bool false, .i 0, .i 0, .bool false, .i 0, .i 0, .bool false, .i 0, .i 0, .bool false, .i 0, .i 0, .bool false, .i 0, .i 0, .bool false, .i 0, .i 0, .bool false, .i 0, .i 0, .bool false, .i 0, .i 0, .bool false, .i 0, .i 0, .bool false, .i 0, .i 0, .bool false, .i 0, .i 0, .bool false, .i 0, .i 0, .bool false, .i 0, .i 0, .bool false, .i 0, .i 0, .bool false, .i 0, .i 0, .bool false, .i 0, .i 0, .bool false, .i 0, .i 0, .bool false, .i 0, .i 0, .bool false, .i 0, .i 0, .bool false, .i 0, .i 0, .bool false, .i 0, .i 0, .bool false, .i 0, .i 0, .bool false, .i 0, .i 0, .bool false, .i 0, .i 0, .bool false, .i 0, .i 0, .bool false, .i 0, .i 0, .bool false, .i 0, .i 0, .bool false, .i 0, .i 0, .bool false, .i 0, .i 0, .bool false, .i 0, .i 0, .bool false, .i 0, .i 0, .bool false, .i 0, .i 0, .bool false, .i 0, .i 0, .bool false, .i 0, .i 0, .bool false, .i 0, .i 0, .bool false, .i 0, .i 0, .bool false, .i 0, .i 0, .bool false, .i 0, .i 0, .bool false, .i 0, .i 0, .bool false, .i 0, .i 0, .bool false, .i 0, .i 0, .nils, .ptr none, .int .u64 0, .bool false, .i 0, .i 0])), false⟩),
  (79, ⟨.ptr 120, 1, 8, (some (.ptr none)), false⟩),
  (81, ⟨.struct [(0, 3), (1, 3), (2, 79), (3, 4), (4, 4), (5, 45), (6, 45)], 7, 48, (some (.agg [.i 0, .i 0, .ptr none, .bool false, .bool false, .int .u64 0, .int .u64 0])), false⟩),
  (82, ⟨.array 2 81, 14, 96, (some (.agg [.i 0, .i 0, .ptr none, .bool false, .bool false, .int .u64 0, .int .u64 0, .i 0, .i 0, .ptr none, .bool false, .bool false, .int .u64 0, .int .u64 0])), false⟩),
  (84, ⟨.struct [(0, 82), (14, 4), (15, 3), (16, 26)], 17, 136, (some (.agg [.i 0, .i 0, .ptr none, .bool false, .bool false, .int .u64 0, .int .u64 0, .i 0, .i 0, .ptr none, .bool false, .bool false, .int .u64 0, .int .u64 0, .bool false, .i 0, .nils])), false⟩),
  (108, ⟨.array 32 4, 32, 32, (some (.agg (List.replicate 32 (.bool false)))), false⟩),
  (109, ⟨.array 32 3, 32, 256, (some (.agg (List.replicate 32 (.i 0)))), false⟩),
  (111, ⟨.struct [(0, 108), (32, 109)], 64, 288, (some (.agg (List.replicate 32 (.bool false : V) ++ List.replicate 32 (.i 0 : V)))), false⟩),
  (120, ⟨.struct [(0, 39), (1, 3), (2, 3), (3, 45), (4, 45), (5, 4)], 6, 64, (some (.agg [.nils, .i 0, .i 0, .int .u64 0, .int .u64 0, .bool false])), false⟩)], 0⟩
end Am.SelNames
