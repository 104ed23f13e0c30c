/- The code of roundhouselaw10.SigsOnce, roundhouselaw10.SigsApart, roundhouselaw10.SigsPlay, roundhouselaw10.SigsCopies, roundhouselaw14.PolFlags and of all that they reach, as the abstract machine takes it: printed by a program. -/
import Derived.Test.YtkppkibkoefkjaaMatch
set_option maxRecDepth 100000
namespace Am.Sigs
open Am Go
def c3_0 : AC :=
  .seq (.region 0 [.mk4 0 (some 42) (.mv (.t 7)) none,
    .mk4 1 (some 43) (.mv (.t 9)) none,
    .mk4 2 (some 44) (.bin .eql (.t 42) (.t 43)) none,
    .mk4 3 (some 45) (.mv (.t 44)) none,
    .mk4 4 (some 46) (.mv (.t 8)) (some (45, true)),
    .mk4 5 (some 47) (.mv (.t 10)) (some (45, true)),
    .mk4 6 (some 48) (.bin .eql (.t 46) (.t 47)) (some (45, true)),
    .mk4 7 (some 49) (.pick (.t 45) (.t 48) (.c (.bool false))) none,
    .mk4 8 (some 50) (.mv (.t 49)) none,
    .mk4 9 (some 51) (.mv (.t 5)) (some (50, true)),
    .mk4 10 (some 52) (.call 11 [(.t 51)]) (some (50, true)),
    .mk4 11 (some 53) (.mv (.t 11)) (some (50, true)),
    .mk4 12 (some 54) (.bin .eql (.t 52) (.t 53)) (some (50, true)),
    .mk4 13 (some 55) (.pick (.t 50) (.t 54) (.c (.bool false))) none,
    .mk4 14 (some 4) (.mv (.t 55)) none] [4]) (.ret)
def c3_1 : AC :=
  .seq (.seq (.region 0 [.mk4 0 (some 36) (.mv (.t 5)) none,
    .mk4 1 (some 37) (.bin .quo (.t 36) (.c (.i 4))) none,
    .mk4 2 (some 38) (.bin .rem (.t 37) (.c (.i 2))) none,
    .mk4 3 (some 39) (.bin .eql (.t 38) (.c (.i 1))) none] [5, 7, 8, 9, 10, 11, 39]) (.cond (.t 39) (.region 0 [.mk4 0 (some 40) (.mv (.t 11)) none,
    .mk4 1 (some 41) (.bin .add (.t 40) (.c (.i 4))) none,
    .mk4 2 (some 11) (.mv (.t 41)) none] [5, 7, 8, 9, 10, 11]) (.skip))) (c3_0)
def c3_2 : AC :=
  .seq (.seq (.region 0 [.mk4 0 (some 30) (.mv (.t 5)) none,
    .mk4 1 (some 31) (.bin .quo (.t 30) (.c (.i 2))) none,
    .mk4 2 (some 32) (.bin .rem (.t 31) (.c (.i 2))) none,
    .mk4 3 (some 33) (.bin .eql (.t 32) (.c (.i 1))) none] [5, 7, 8, 9, 10, 11, 33]) (.cond (.t 33) (.region 0 [.mk4 0 (some 34) (.mv (.t 11)) none,
    .mk4 1 (some 35) (.bin .add (.t 34) (.c (.i 1))) none,
    .mk4 2 (some 11) (.mv (.t 35)) none] [5, 7, 8, 9, 10, 11]) (.skip))) (c3_1)
def c3_3 : AC :=
  .seq (.region 0 [.mk4 0 (some 25) (.mv (.t 5)) none,
    .mk4 1 (some 26) (.mv (.t 6)) none,
    .mk4 2 (some 27) (.call 10 [(.t 25), (.t 26)]) none,
    .mk4 3 (some 24) (.mv (.t 27)) none,
    .mk4 4 (some 28) (.extract (.t 24) 0) none,
    .mk4 5 (some 29) (.extract (.t 24) 1) none,
    .mk4 6 (some 9) (.mv (.t 28)) none,
    .mk4 7 (some 10) (.mv (.t 29)) none] [5, 7, 8, 9, 10]) (.seq (.region 0 [.mk4 0 (some 11) (.mv (.c (.i 0))) none] [5, 7, 8, 9, 10, 11]) (c3_2))
def c3_4 : AC :=
  .seq (.region 0 [.mk4 0 (some 19) (.mv (.t 5)) none,
    .mk4 1 (some 20) (.mv (.t 6)) none,
    .mk4 2 (some 21) (.call 9 [(.t 19), (.t 20)]) none,
    .mk4 3 (some 18) (.mv (.t 21)) none,
    .mk4 4 (some 22) (.extract (.t 18) 0) none,
    .mk4 5 (some 23) (.extract (.t 18) 1) none,
    .mk4 6 (some 7) (.mv (.t 22)) none,
    .mk4 7 (some 8) (.mv (.t 23)) none] [5, 6, 7, 8]) (c3_3)
def c3_5 : AC :=
  .seq (.region 0 [.mk4 0 (some 12) (.mv (.t 0)) none,
    .mk4 1 (some 13) (.bin .rem (.t 12) (.c (.int .u8 64))) none,
    .mk4 2 (some 14) (.convInt .i64 (.t 13)) none,
    .mk4 3 (some 5) (.mv (.t 14)) none] [1, 5]) (.seq (.region 0 [.mk4 0 (some 15) (.mv (.t 1)) none,
    .mk4 1 (some 16) (.bin .rem (.t 15) (.c (.int .u8 64))) none,
    .mk4 2 (some 17) (.convInt .i64 (.t 16)) none,
    .mk4 3 (some 6) (.mv (.t 17)) none] [5, 6]) (c3_4))
def c3 : AFn := ⟨2, 56, [.tmp 4],
  (.seq (.region 0 [.mk4 0 (some 4) (.mv (.c (.bool false))) none] [0, 1]) (c3_5))⟩
def c4_0 : AC :=
  .region 0 [.mk4 0 (some 68) (.mv (.t 6)) none,
    .mk4 1 (some 69) (.mv (.t 0)) none,
    .mk4 2 (some 70) (.mv (.t 10)) none,
    .mk4 3 (some 71) (.ixaS 2 (.t 69) (.t 70)) none,
    .mk4 4 (some 72) (.faddr 1 (.t 71)) none,
    .mk4 5 (some 73) (.load1 (.t 72)) none,
    .mk4 6 (some 74) (.call 14 [(.t 68), (.t 73), (.c (.bool false))]) none] [0, 1, 5, 6, 8, 9, 10]
def c4_1 : AC :=
  .seq (.region 0 [.mk4 0 (some 84) (.mv (.t 0)) none,
    .mk4 1 (some 85) (.mv (.t 10)) none,
    .mk4 2 (some 86) (.ixaS 2 (.t 84) (.t 85)) none,
    .mk4 3 (some 87) (.faddr 1 (.t 86)) none,
    .mk4 4 (some 88) (.load1 (.t 87)) none,
    .mk4 5 (some 89) (.mv (.t 1)) none,
    .mk4 6 (some 90) (.bin .eql (.t 88) (.t 89)) none] [0, 1, 5, 6, 8, 9, 10, 90]) (.cond (.t 90) (.region 0 [.mk4 0 (some 91) (.mv (.t 8)) none,
    .mk4 1 (some 92) (.bin .add (.t 91) (.c (.i 1))) none,
    .mk4 2 (some 8) (.mv (.t 92)) none] [0, 1, 5, 6, 8, 9, 10]) (.skip))
def c4_2 : AC :=
  .region 0 [.mk4 0 (some 110) (.mv (.t 9)) none,
    .mk4 1 (some 111) (.mv (.t 11)) none,
    .mk4 2 (some 112) (.mv (.t 12)) none,
    .mk4 3 (some 113) (.ixaS 2 (.t 111) (.t 112)) none,
    .mk4 4 (some 114) (.faddr 1 (.t 113)) none,
    .mk4 5 (some 115) (.load1 (.t 114)) none,
    .mk4 6 (some 116) (.bin .add (.t 110) (.t 115)) none,
    .mk4 7 (some 9) (.mv (.t 116)) none] [0, 1, 5, 6, 8, 9, 10, 11, 12]
def c4_3 : AC :=
  .seq (.region 0 [.mk4 0 (some 103) (.mv (.t 11)) none,
    .mk4 1 (some 104) (.mv (.t 12)) none,
    .mk4 2 (some 105) (.ixaS 2 (.t 103) (.t 104)) none,
    .mk4 3 (some 106) (.faddr 0 (.t 105)) none,
    .mk4 4 (some 107) (.load1 (.t 106)) none,
    .mk4 5 (some 108) (.mv (.t 1)) none,
    .mk4 6 (some 109) (.bin .eql (.t 107) (.t 108)) none] [0, 1, 5, 6, 8, 9, 10, 11, 12, 109]) (.cond (.t 109) (c4_2) (.skip))
def c4_4 : AC :=
  .seq (.seq (.region 0 [.mk4 0 (some 97) (.mv (.t 12)) none,
    .mk4 1 (some 98) (.mv (.t 11)) none,
    .mk4 2 (some 99) (.lenL (.t 98)) none,
    .mk4 3 (some 100) (.bin .lss (.t 97) (.t 99)) none] [0, 1, 5, 6, 8, 9, 10, 11, 12, 100]) (.cond (.t 100) (.skip) (.exit 3))) (.seq (.block 4 (c4_3)) (.region 0 [.mk4 0 (some 101) (.mv (.t 12)) none,
    .mk4 1 (some 102) (.bin .add (.t 101) (.c (.i 1))) none,
    .mk4 2 (some 12) (.mv (.t 102)) none] [0, 1, 5, 6, 8, 9, 10, 11, 12]))
def c4_5 : AC :=
  .seq (.region 0 [.mk4 0 (some 95) (.mv (.t 6)) none,
    .mk4 1 (some 96) (.call 16 [(.t 95)]) none,
    .mk4 2 (some 11) (.mv (.t 96)) none] [0, 1, 5, 6, 8, 9, 10, 11]) (.seq (.region 0 [.mk4 0 (some 12) (.mv (.c (.i 0))) none] [0, 1, 5, 6, 8, 9, 10, 11, 12]) (.block 3 (.loop [0, 1, 5, 6, 8, 9, 10, 11, 12] (c4_4))))
def c4_6 : AC :=
  .seq (.region 0 [.mk4 0 (some 77) (.mv (.t 6)) none,
    .mk4 1 (some 78) (.mv (.t 0)) none,
    .mk4 2 (some 79) (.mv (.t 10)) none,
    .mk4 3 (some 80) (.ixaS 2 (.t 78) (.t 79)) none,
    .mk4 4 (some 81) (.faddr 1 (.t 80)) none,
    .mk4 5 (some 82) (.load1 (.t 81)) none,
    .mk4 6 (some 83) (.call 15 [(.t 77), (.t 82)]) none] [0, 1, 5, 6, 8, 9, 10]) (c4_1)
def c4_7 : AC :=
  .seq (.region 0 [.mk4 0 (some 61) (.mv (.t 0)) none,
    .mk4 1 (some 62) (.mv (.t 10)) none,
    .mk4 2 (some 63) (.ixaS 2 (.t 61) (.t 62)) none,
    .mk4 3 (some 64) (.faddr 1 (.t 63)) none,
    .mk4 4 (some 65) (.load1 (.t 64)) none,
    .mk4 5 (some 66) (.mv (.t 1)) none,
    .mk4 6 (some 67) (.bin .neq (.t 65) (.t 66)) none] [0, 1, 5, 6, 8, 9, 10, 67]) (.cond (.t 67) (c4_0) (.skip))
def c4_8 : AC :=
  .seq (.region 0 [.mk4 0 (some 76) (.bin .eql (.t 49) (.c (.i 2))) none,
    .mk4 1 (some 75) (.mv (.t 76)) none] [0, 1, 5, 6, 8, 9, 10, 49, 75]) (.cond (.t 75) (c4_6) (.seq (.region 0 [.mk4 0 (some 94) (.bin .eql (.t 49) (.c (.i 3))) none,
    .mk4 1 (some 93) (.mv (.t 94)) none] [0, 1, 5, 6, 8, 9, 10, 93]) (.cond (.t 93) (c4_5) (.skip))))
def c4_9 : AC :=
  .region 0 [.mk4 0 (some 52) (.mv (.t 6)) none,
    .mk4 1 (some 53) (.mv (.t 0)) none,
    .mk4 2 (some 54) (.mv (.t 10)) none,
    .mk4 3 (some 55) (.ixaS 2 (.t 53) (.t 54)) none,
    .mk4 4 (some 56) (.faddr 1 (.t 55)) none,
    .mk4 5 (some 57) (.load1 (.t 56)) none,
    .mk4 6 (some 58) (.call 14 [(.t 52), (.t 57), (.c (.bool true))]) none] [0, 1, 5, 6, 8, 9, 10]
def c4_10 : AC :=
  .seq (.region 0 [.mk4 0 (some 51) (.bin .eql (.t 49) (.c (.i 0))) none,
    .mk4 1 (some 50) (.mv (.t 51)) none] [0, 1, 5, 6, 8, 9, 10, 49, 50]) (.cond (.t 50) (c4_9) (.seq (.region 0 [.mk4 0 (some 60) (.bin .eql (.t 49) (.c (.i 1))) none,
    .mk4 1 (some 59) (.mv (.t 60)) none] [0, 1, 5, 6, 8, 9, 10, 49, 59]) (.cond (.t 59) (c4_7) (c4_8))))
def c4_11 : AC :=
  .seq (.block 1 (.seq (.region 0 [.mk4 0 (some 45) (.mv (.t 0)) none,
    .mk4 1 (some 46) (.mv (.t 10)) none,
    .mk4 2 (some 47) (.ixaS 2 (.t 45) (.t 46)) none,
    .mk4 3 (some 48) (.faddr 0 (.t 47)) none,
    .mk4 4 (some 49) (.load1 (.t 48)) none] [0, 1, 5, 6, 8, 9, 10, 49]) (.block 2 (c4_10)))) (.region 0 [.mk4 0 (some 43) (.mv (.t 10)) none,
    .mk4 1 (some 44) (.bin .add (.t 43) (.c (.i 1))) none,
    .mk4 2 (some 10) (.mv (.t 44)) none] [0, 1, 5, 6, 8, 9, 10])
def c4_12 : AC :=
  .block 0 (.loop [0, 1, 5, 6, 8, 9, 10] (.seq (.seq (.region 0 [.mk4 0 (some 39) (.mv (.t 10)) none,
    .mk4 1 (some 40) (.mv (.t 0)) none,
    .mk4 2 (some 41) (.lenL (.t 40)) none,
    .mk4 3 (some 42) (.bin .lss (.t 39) (.t 41)) none] [0, 1, 5, 6, 8, 9, 10, 42]) (.cond (.t 42) (.skip) (.exit 0))) (c4_11)))
def c4_13 : AC :=
  .seq (.region 0 [.mk4 0 (some 117) (.mv (.t 5)) none,
    .mk4 1 (some 118) (.mv (.t 117)) none,
    .mk4 2 (some 119) (.mv (.t 9)) (some (118, true)),
    .mk4 3 (some 120) (.mv (.t 6)) (some (118, true)),
    .mk4 4 (some 121) (.mv (.t 1)) (some (118, true)),
    .mk4 5 (some 122) (.call 17 [(.t 120), (.t 121)]) (some (118, true)),
    .mk4 6 (some 123) (.bin .add (.t 119) (.t 122)) (some (118, true)),
    .mk4 7 (some 124) (.mv (.t 8)) (some (118, true)),
    .mk4 8 (some 125) (.bin .eql (.t 123) (.t 124)) (some (118, true)),
    .mk4 9 (some 126) (.pick (.t 118) (.t 125) (.c (.bool false))) none,
    .mk4 10 (some 4) (.mv (.t 126)) none] [4]) (.ret)
def c4_14 : AC :=
  .seq (.region 0 [.mk4 0 (some 28) (.mv (.t 5)) none,
    .mk4 1 (some 29) (.mv (.t 28)) none,
    .mk4 2 (some 30) (.mv (.t 7)) (some (29, true)),
    .mk4 3 (some 31) (.bin .eql (.t 30) (.c (.i 100))) (some (29, true)),
    .mk4 4 (some 32) (.pick (.t 29) (.t 31) (.c (.bool false))) none,
    .mk4 5 (some 33) (.mv (.t 32)) none,
    .mk4 6 (some 34) (.mv (.t 6)) (some (33, true)),
    .mk4 7 (some 35) (.mv (.t 1)) (some (33, true)),
    .mk4 8 (some 36) (.call 15 [(.t 34), (.t 35)]) (some (33, true)),
    .mk4 9 (some 37) (.bin .eql (.t 36) (.c (.i 100))) (some (33, true)),
    .mk4 10 (some 38) (.pick (.t 33) (.t 37) (.c (.bool false))) none,
    .mk4 11 (some 4) (.mv (.t 38)) none] [4]) (.ret)
def c4_15 : AC :=
  .seq (.seq (.region 0 [.mk4 0 (some 26) (.mv (.t 7)) none,
    .mk4 1 (some 27) (.bin .neq (.t 26) (.c (.i 0))) none] [0, 1, 5, 6, 7, 27]) (.cond (.t 27) (c4_14) (.skip))) (.seq (.region 0 [.mk4 0 (some 8) (.mv (.c (.i 0))) none] [0, 1, 5, 6, 8]) (.seq (.region 0 [.mk4 0 (some 9) (.mv (.c (.i 0))) none] [0, 1, 5, 6, 8, 9]) (.seq (.seq (.region 0 [.mk4 0 (some 10) (.mv (.c (.i 0))) none] [0, 1, 5, 6, 8, 9, 10]) (c4_12)) (c4_13))))
def c4_16 : AC :=
  .seq (.region 0 [.mk4 0 (some 22) (.call 13 []) none,
    .mk4 1 (some 6) (.mv (.t 22)) none] [0, 1, 5, 6]) (.seq (.region 0 [.mk4 0 (some 23) (.mv (.t 6)) none,
    .mk4 1 (some 24) (.mv (.t 1)) none,
    .mk4 2 (some 25) (.call 14 [(.t 23), (.t 24), (.c (.bool true))]) none,
    .mk4 3 (some 7) (.mv (.t 25)) none] [0, 1, 5, 6, 7]) (c4_15))
def c4_17 : AC :=
  .seq (.seq (.region 0 [.mk4 0 (some 14) (.mv (.t 0)) none,
    .mk4 1 (some 15) (.lenL (.t 14)) none,
    .mk4 2 (some 16) (.bin .gtr (.t 15) (.c (.i 150))) none,
    .mk4 3 (some 17) (.mv (.t 16)) none,
    .mk4 4 (some 18) (.mv (.t 5)) (some (17, false)),
    .mk4 5 (some 19) (.un .not (.t 18)) (some (17, false)),
    .mk4 6 (some 20) (.pick (.t 17) (.c (.bool true)) (.t 19)) none] [0, 1, 5, 20]) (.cond (.t 20) (.seq (.region 0 [.mk4 0 (some 21) (.mv (.t 5)) none,
    .mk4 1 (some 4) (.mv (.t 21)) none] [4]) (.ret)) (.skip))) (c4_16)
def c4 : AFn := ⟨2, 127, [.tmp 4],
  (.seq (.region 0 [.mk4 0 (some 4) (.mv (.c (.bool false))) none] [0, 1]) (.seq (.region 0 [.mk4 0 (some 13) (.call 12 []) none,
    .mk4 1 (some 5) (.mv (.t 13)) none] [0, 1, 5]) (c4_17)))⟩
def c5_0 : AC :=
  .region 0 [.mk4 0 (some 115) (.mv (.t 10)) none,
    .mk4 1 (some 116) (.mv (.t 15)) none,
    .mk4 2 (some 117) (.ixaS 2 (.t 115) (.t 116)) none,
    .mk4 3 (some 118) (.faddr 1 (.t 117)) none,
    .mk4 4 (some 119) (.load1 (.t 118)) none,
    .mk4 5 (some 14) (.mv (.t 119)) none] [0, 1, 5, 6, 7, 8, 10, 12, 14, 15]
def c5_1 : AC :=
  .seq (.seq (.region 0 [.mk4 0 (some 108) (.mv (.t 10)) none,
    .mk4 1 (some 109) (.mv (.t 15)) none,
    .mk4 2 (some 110) (.ixaS 2 (.t 108) (.t 109)) none,
    .mk4 3 (some 111) (.faddr 0 (.t 110)) none,
    .mk4 4 (some 112) (.load1 (.t 111)) none,
    .mk4 5 (some 113) (.mv (.t 1)) none,
    .mk4 6 (some 114) (.bin .neq (.t 112) (.t 113)) none] [0, 1, 5, 6, 7, 8, 10, 12, 15, 114]) (.cond (.t 114) (.seq (.region 0 [.mk4 0 (some 4) (.mv (.c (.bool false))) none] [4]) (.ret)) (.skip))) (c5_0)
def c5_2 : AC :=
  .seq (.seq (.region 0 [.mk4 0 (some 102) (.mv (.t 15)) none,
    .mk4 1 (some 103) (.mv (.t 10)) none,
    .mk4 2 (some 104) (.lenL (.t 103)) none,
    .mk4 3 (some 105) (.bin .lss (.t 102) (.t 104)) none] [0, 1, 5, 6, 7, 8, 10, 12, 14, 15, 105]) (.cond (.t 105) (.skip) (.exit 5))) (.seq (.block 6 (c5_1)) (.region 0 [.mk4 0 (some 106) (.mv (.t 15)) none,
    .mk4 1 (some 107) (.bin .add (.t 106) (.c (.i 1))) none,
    .mk4 2 (some 15) (.mv (.t 107)) none] [0, 1, 5, 6, 7, 8, 10, 12, 14, 15]))
def c5_3 : AC :=
  .seq (.region 0 [.mk4 0 (some 120) (.mv (.t 12)) none,
    .mk4 1 (some 121) (.mv (.t 14)) none,
    .mk4 2 (some 122) (.bin .neq (.t 120) (.t 121)) none,
    .mk4 3 (some 123) (.mv (.t 122)) none,
    .mk4 4 (some 124) (.mv (.t 6)) (some (123, false)),
    .mk4 5 (some 125) (.mv (.t 1)) (some (123, false)),
    .mk4 6 (some 126) (.call 18 [(.t 124), (.t 125)]) (some (123, false)),
    .mk4 7 (some 127) (.mv (.t 7)) (some (123, false)),
    .mk4 8 (some 128) (.mv (.t 1)) (some (123, false)),
    .mk4 9 (some 129) (.call 18 [(.t 127), (.t 128)]) (some (123, false)),
    .mk4 10 (some 130) (.eq .bool true (.t 126) (.t 129)) (some (123, false)),
    .mk4 11 (some 131) (.pick (.t 123) (.c (.bool true)) (.t 130)) none,
    .mk4 12 (some 132) (.mv (.t 131)) none,
    .mk4 13 (some 133) (.mv (.t 6)) (some (132, false)),
    .mk4 14 (some 134) (.mv (.t 1)) (some (132, false)),
    .mk4 15 (some 135) (.call 17 [(.t 133), (.t 134)]) (some (132, false)),
    .mk4 16 (some 136) (.mv (.t 7)) (some (132, false)),
    .mk4 17 (some 137) (.mv (.t 1)) (some (132, false)),
    .mk4 18 (some 138) (.call 17 [(.t 136), (.t 137)]) (some (132, false)),
    .mk4 19 (some 139) (.bin .neq (.t 135) (.t 138)) (some (132, false)),
    .mk4 20 (some 140) (.pick (.t 132) (.c (.bool true)) (.t 139)) none] [0, 1, 5, 6, 7, 8, 140]) (.cond (.t 140) (.seq (.region 0 [.mk4 0 (some 4) (.mv (.c (.bool false))) none] [4]) (.ret)) (.skip))
def c5_4 : AC :=
  .region 0 [.mk4 0 (some 97) (.mv (.t 9)) none,
    .mk4 1 (some 98) (.mv (.t 13)) none,
    .mk4 2 (some 99) (.ixaS 2 (.t 97) (.t 98)) none,
    .mk4 3 (some 100) (.faddr 1 (.t 99)) none,
    .mk4 4 (some 101) (.load1 (.t 100)) none,
    .mk4 5 (some 12) (.mv (.t 101)) none] [0, 1, 5, 6, 7, 8, 9, 10, 12, 13]
def c5_5 : AC :=
  .seq (.region 0 [.mk4 0 (some 90) (.mv (.t 9)) none,
    .mk4 1 (some 91) (.mv (.t 13)) none,
    .mk4 2 (some 92) (.ixaS 2 (.t 90) (.t 91)) none,
    .mk4 3 (some 93) (.faddr 0 (.t 92)) none,
    .mk4 4 (some 94) (.load1 (.t 93)) none,
    .mk4 5 (some 95) (.mv (.t 1)) none,
    .mk4 6 (some 96) (.bin .eql (.t 94) (.t 95)) none] [0, 1, 5, 6, 7, 8, 9, 10, 12, 13, 96]) (.cond (.t 96) (c5_4) (.skip))
def c5_6 : AC :=
  .seq (.seq (.region 0 [.mk4 0 (some 84) (.mv (.t 13)) none,
    .mk4 1 (some 85) (.mv (.t 9)) none,
    .mk4 2 (some 86) (.lenL (.t 85)) none,
    .mk4 3 (some 87) (.bin .lss (.t 84) (.t 86)) none] [0, 1, 5, 6, 7, 8, 9, 10, 12, 13, 87]) (.cond (.t 87) (.skip) (.exit 3))) (.seq (.block 4 (c5_5)) (.region 0 [.mk4 0 (some 88) (.mv (.t 13)) none,
    .mk4 1 (some 89) (.bin .add (.t 88) (.c (.i 1))) none,
    .mk4 2 (some 13) (.mv (.t 89)) none] [0, 1, 5, 6, 7, 8, 9, 10, 12, 13]))
def c5_7 : AC :=
  .seq (.seq (.region 0 [.mk4 0 (some 13) (.mv (.c (.i 0))) none] [0, 1, 5, 6, 7, 8, 9, 10, 12, 13]) (.block 3 (.loop [0, 1, 5, 6, 7, 8, 9, 10, 12, 13] (c5_6)))) (.seq (.region 0 [.mk4 0 (some 14) (.mv (.c (.i 0))) none] [0, 1, 5, 6, 7, 8, 10, 12, 14]) (.seq (.seq (.region 0 [.mk4 0 (some 15) (.mv (.c (.i 0))) none] [0, 1, 5, 6, 7, 8, 10, 12, 14, 15]) (.block 5 (.loop [0, 1, 5, 6, 7, 8, 10, 12, 14, 15] (c5_2)))) (c5_3)))
def c5_8 : AC :=
  .region 0 [.mk4 0 (some 58) (.mv (.t 7)) none,
    .mk4 1 (some 59) (.mv (.t 11)) none,
    .mk4 2 (some 60) (.mv (.t 0)) none,
    .mk4 3 (some 61) (.mv (.t 8)) none,
    .mk4 4 (some 62) (.ixaS 2 (.t 60) (.t 61)) none,
    .mk4 5 (some 63) (.faddr 0 (.t 62)) none,
    .mk4 6 (some 64) (.load1 (.t 63)) none,
    .mk4 7 (some 65) (.bin .eql (.t 64) (.c (.i 0))) none,
    .mk4 8 (some 66) (.call 14 [(.t 58), (.t 59), (.t 65)]) none] [0, 1, 5, 6, 7, 8, 9, 10]
def c5_9 : AC :=
  .seq (.region 0 [.mk4 0 (some 72) (.mv (.t 11)) none,
    .mk4 1 (some 73) (.mv (.t 1)) none,
    .mk4 2 (some 74) (.bin .eql (.t 72) (.t 73)) none] [0, 1, 5, 6, 7, 8, 9, 10, 11, 74]) (.cond (.t 74) (.region 0 [.mk4 0 (some 75) (.mv (.t 7)) none,
    .mk4 1 (some 76) (.mv (.t 11)) none,
    .mk4 2 (some 77) (.call 15 [(.t 75), (.t 76)]) none] [0, 1, 5, 6, 7, 8, 9, 10]) (.skip))
def c5_10 : AC :=
  .seq (.region 0 [.mk4 0 (some 80) (.mv (.t 6)) none,
    .mk4 1 (some 81) (.call 16 [(.t 80)]) none,
    .mk4 2 (some 9) (.mv (.t 81)) none] [0, 1, 5, 6, 7, 8, 9]) (.region 0 [.mk4 0 (some 82) (.mv (.t 7)) none,
    .mk4 1 (some 83) (.call 16 [(.t 82)]) none,
    .mk4 2 (some 10) (.mv (.t 83)) none] [0, 1, 5, 6, 7, 8, 9, 10])
def c5_11 : AC :=
  .cond (.t 67) (.seq (.region 0 [.mk4 0 (some 69) (.mv (.t 6)) none,
    .mk4 1 (some 70) (.mv (.t 11)) none,
    .mk4 2 (some 71) (.call 15 [(.t 69), (.t 70)]) none] [0, 1, 5, 6, 7, 8, 9, 10, 11]) (c5_9)) (.seq (.region 0 [.mk4 0 (some 79) (.bin .eql (.t 42) (.c (.i 3))) none,
    .mk4 1 (some 78) (.mv (.t 79)) none] [0, 1, 5, 6, 7, 8, 9, 10, 78]) (.cond (.t 78) (c5_10) (.skip)))
def c5_12 : AC :=
  .seq (.region 0 [.mk4 0 (some 46) (.mv (.t 6)) none,
    .mk4 1 (some 47) (.mv (.t 11)) none,
    .mk4 2 (some 48) (.mv (.t 0)) none,
    .mk4 3 (some 49) (.mv (.t 8)) none,
    .mk4 4 (some 50) (.ixaS 2 (.t 48) (.t 49)) none,
    .mk4 5 (some 51) (.faddr 0 (.t 50)) none,
    .mk4 6 (some 52) (.load1 (.t 51)) none,
    .mk4 7 (some 53) (.bin .eql (.t 52) (.c (.i 0))) none,
    .mk4 8 (some 54) (.call 14 [(.t 46), (.t 47), (.t 53)]) none] [0, 1, 5, 6, 7, 8, 9, 10, 11]) (.seq (.region 0 [.mk4 0 (some 55) (.mv (.t 11)) none,
    .mk4 1 (some 56) (.mv (.t 1)) none,
    .mk4 2 (some 57) (.bin .eql (.t 55) (.t 56)) none] [0, 1, 5, 6, 7, 8, 9, 10, 11, 57]) (.cond (.t 57) (c5_8) (.skip)))
def c5_13 : AC :=
  .seq (.seq (.region 0 [.mk4 0 (some 44) (.bin .eql (.t 42) (.c (.i 0))) none,
    .mk4 1 (some 43) (.mv (.t 44)) none] [0, 1, 5, 6, 7, 8, 9, 10, 11, 42, 43]) (.cond (.t 43) (.skip) (.region 0 [.mk4 0 (some 45) (.bin .eql (.t 42) (.c (.i 1))) none,
    .mk4 1 (some 43) (.mv (.t 45)) none] [0, 1, 5, 6, 7, 8, 9, 10, 11, 42, 43]))) (.cond (.t 43) (c5_12) (.seq (.region 0 [.mk4 0 (some 68) (.bin .eql (.t 42) (.c (.i 2))) none,
    .mk4 1 (some 67) (.mv (.t 68)) none] [0, 1, 5, 6, 7, 8, 9, 10, 11, 42, 67]) (c5_11)))
def c5_14 : AC :=
  .seq (.seq (.region 0 [.mk4 0 (some 38) (.mv (.t 0)) none,
    .mk4 1 (some 39) (.mv (.t 8)) none,
    .mk4 2 (some 40) (.ixaS 2 (.t 38) (.t 39)) none,
    .mk4 3 (some 41) (.faddr 0 (.t 40)) none,
    .mk4 4 (some 42) (.load1 (.t 41)) none] [0, 1, 5, 6, 7, 8, 9, 10, 11, 42]) (.block 2 (c5_13))) (.seq (.region 0 [.mk4 0 (some 12) (.mv (.c (.i 0))) none] [0, 1, 5, 6, 7, 8, 9, 10, 12]) (c5_7))
def c5_15 : AC :=
  .seq (.region 0 [.mk4 0 (some 33) (.mv (.t 0)) none,
    .mk4 1 (some 34) (.mv (.t 8)) none,
    .mk4 2 (some 35) (.ixaS 2 (.t 33) (.t 34)) none,
    .mk4 3 (some 36) (.faddr 1 (.t 35)) none,
    .mk4 4 (some 37) (.load1 (.t 36)) none,
    .mk4 5 (some 11) (.mv (.t 37)) none] [0, 1, 5, 6, 7, 8, 9, 10, 11]) (c5_14)
def c5_16 : AC :=
  .seq (.block 1 (.seq (.region 0 [.mk4 0 (some 9) (.mv (.c (.nils))) none] [0, 1, 5, 6, 7, 8, 9]) (.seq (.region 0 [.mk4 0 (some 10) (.mv (.c (.nils))) none] [0, 1, 5, 6, 7, 8, 9, 10]) (c5_15)))) (.region 0 [.mk4 0 (some 31) (.mv (.t 8)) none,
    .mk4 1 (some 32) (.bin .add (.t 31) (.c (.i 1))) none,
    .mk4 2 (some 8) (.mv (.t 32)) none] [0, 1, 5, 6, 7, 8])
def c5_17 : AC :=
  .block 0 (.loop [0, 1, 5, 6, 7, 8] (.seq (.seq (.region 0 [.mk4 0 (some 27) (.mv (.t 8)) none,
    .mk4 1 (some 28) (.mv (.t 0)) none,
    .mk4 2 (some 29) (.lenL (.t 28)) none,
    .mk4 3 (some 30) (.bin .lss (.t 27) (.t 29)) none] [0, 1, 5, 6, 7, 8, 30]) (.cond (.t 30) (.skip) (.exit 0))) (c5_16)))
def c5_18 : AC :=
  .seq (.region 0 [.mk4 0 (some 26) (.call 13 []) none,
    .mk4 1 (some 7) (.mv (.t 26)) none] [0, 1, 5, 6, 7]) (.seq (.seq (.region 0 [.mk4 0 (some 8) (.mv (.c (.i 0))) none] [0, 1, 5, 6, 7, 8]) (c5_17)) (.seq (.region 0 [.mk4 0 (some 141) (.mv (.t 5)) none,
    .mk4 1 (some 4) (.mv (.t 141)) none] [4]) (.ret)))
def c5_19 : AC :=
  .seq (.seq (.region 0 [.mk4 0 (some 17) (.mv (.t 0)) none,
    .mk4 1 (some 18) (.lenL (.t 17)) none,
    .mk4 2 (some 19) (.bin .gtr (.t 18) (.c (.i 150))) none,
    .mk4 3 (some 20) (.mv (.t 19)) none,
    .mk4 4 (some 21) (.mv (.t 5)) (some (20, false)),
    .mk4 5 (some 22) (.un .not (.t 21)) (some (20, false)),
    .mk4 6 (some 23) (.pick (.t 20) (.c (.bool true)) (.t 22)) none] [0, 1, 5, 23]) (.cond (.t 23) (.seq (.region 0 [.mk4 0 (some 24) (.mv (.t 5)) none,
    .mk4 1 (some 4) (.mv (.t 24)) none] [4]) (.ret)) (.skip))) (.seq (.region 0 [.mk4 0 (some 25) (.call 13 []) none,
    .mk4 1 (some 6) (.mv (.t 25)) none] [0, 1, 5, 6]) (c5_18))
def c5 : AFn := ⟨2, 142, [.tmp 4],
  (.seq (.region 0 [.mk4 0 (some 4) (.mv (.c (.bool false))) none] [0, 1]) (.seq (.region 0 [.mk4 0 (some 16) (.call 12 []) none,
    .mk4 1 (some 5) (.mv (.t 16)) none] [0, 1, 5]) (c5_19)))⟩
def c6_0 : AC :=
  .seq (.seq (.region 0 [.mk4 0 (some 162) (.mv (.t 13)) none,
    .mk4 1 (some 163) (.mv (.t 12)) none,
    .mk4 2 (some 164) (.lenL (.t 163)) none,
    .mk4 3 (some 165) (.bin .geq (.t 162) (.t 164)) none,
    .mk4 4 (some 166) (.mv (.t 165)) none,
    .mk4 5 (some 167) (.mv (.t 12)) (some (166, false)),
    .mk4 6 (some 168) (.mv (.t 13)) (some (166, false)),
    .mk4 7 (some 169) (.ixaS 1 (.t 167) (.t 168)) (some (166, false)),
    .mk4 8 (some 170) (.load1 (.t 169)) (some (166, false)),
    .mk4 9 (some 171) (.mv (.t 14)) (some (166, false)),
    .mk4 10 (some 172) (.bin .neq (.t 170) (.t 171)) (some (166, false)),
    .mk4 11 (some 173) (.pick (.t 166) (.c (.bool true)) (.t 172)) none] [0, 3, 4, 5, 12, 13, 14, 173]) (.cond (.t 173) (.seq (.region 0 [.mk4 0 (some 2) (.mv (.c (.bool false))) none] [2]) (.ret)) (.skip))) (.region 0 [.mk4 0 (some 174) (.mv (.t 13)) none,
    .mk4 1 (some 175) (.bin .add (.t 174) (.c (.i 1))) none,
    .mk4 2 (some 13) (.mv (.t 175)) none] [0, 3, 4, 5, 12, 13, 14])
def c6_1 : AC :=
  .seq (.seq (.region 0 [.mk4 0 (some 146) (.mv (.t 3)) none,
    .mk4 1 (some 147) (.mv (.t 14)) none,
    .mk4 3 (some 149) (.mv (.t 15)) none,
    .mk4 2 (some 148) (.call 18 [(.t 146), (.t 147)]) none,
    .mk4 4 (some 150) (.eq .bool true (.t 148) (.t 149)) none,
    .mk4 5 (some 151) (.mv (.t 150)) none,
    .mk4 6 (some 152) (.mv (.t 3)) (some (151, false)),
    .mk4 7 (some 153) (.mv (.t 14)) (some (151, false)),
    .mk4 9 (some 155) (.faddr 1 (.t 4)) (some (151, false)),
    .mk4 10 (some 156) (.load1 (.t 155)) (some (151, false)),
    .mk4 11 (some 157) (.mv (.t 14)) (some (151, false)),
    ⟨8, (some 154), .call 17 [(.t 152), (.t 153)], (some (151, false)), none, [(156, .load1 (.t 155), (some (151, false)))]⟩,
    .mk4 12 (some 158) (.call 21 [(.t 156), (.t 157)]) (some (151, false)),
    .mk4 13 (some 159) (.bin .neq (.t 154) (.t 158)) (some (151, false)),
    .mk4 14 (some 160) (.pick (.t 151) (.c (.bool true)) (.t 159)) none] [0, 3, 4, 5, 12, 13, 14, 15, 160]) (.cond (.t 160) (.seq (.region 0 [.mk4 0 (some 2) (.mv (.c (.bool false))) none] [2]) (.ret)) (.skip))) (.seq (.region 0 [.mk4 0 (some 161) (.mv (.t 15)) none] [0, 3, 4, 5, 12, 13, 14, 161]) (.cond (.t 161) (c6_0) (.skip)))
def c6_2 : AC :=
  .seq (.region 0 [.mk4 0 (some 141) (.faddr 0 (.t 4)) none,
    .mk4 1 (some 142) (.load1 (.t 141)) none,
    .mk4 2 (some 143) (.mv (.t 14)) none,
    .mk4 3 (some 144) (.call 21 [(.t 142), (.t 143)]) none,
    .mk4 4 (some 145) (.bin .gtr (.t 144) (.c (.i 0))) none,
    .mk4 5 (some 15) (.mv (.t 145)) none] [0, 3, 4, 5, 12, 13, 14, 15]) (c6_1)
def c6_3 : AC :=
  .seq (.seq (.region 0 [.mk4 0 (some 137) (.mv (.t 14)) none,
    .mk4 1 (some 138) (.bin .leq (.t 137) (.c (.i 33))) none] [0, 3, 4, 5, 12, 13, 14, 138]) (.cond (.t 138) (.skip) (.exit 5))) (.seq (.block 6 (c6_2)) (.region 0 [.mk4 0 (some 139) (.mv (.t 14)) none,
    .mk4 1 (some 140) (.bin .add (.t 139) (.c (.i 1))) none,
    .mk4 2 (some 14) (.mv (.t 140)) none] [0, 3, 4, 5, 12, 13, 14]))
def c6_4 : AC :=
  .seq (.region 0 [.mk4 0 (some 176) (.mv (.t 13)) none,
    .mk4 1 (some 177) (.mv (.t 12)) none,
    .mk4 2 (some 178) (.lenL (.t 177)) none,
    .mk4 3 (some 179) (.bin .neq (.t 176) (.t 178)) none,
    .mk4 4 (some 180) (.mv (.t 179)) none,
    .mk4 5 (some 181) (.mv (.t 3)) (some (180, false)),
    .mk4 7 (some 183) (.faddr 1 (.t 4)) (some (180, false)),
    .mk4 8 (some 184) (.load1 (.t 183)) (some (180, false)),
    .mk4 9 (some 185) (.lenL (.t 184)) (some (180, false)),
    ⟨6, (some 182), .call 24 [(.t 181)], (some (180, false)), none, [(184, .load1 (.t 183), (some (180, false)))]⟩,
    .mk4 10 (some 186) (.bin .neq (.t 182) (.t 185)) (some (180, false)),
    .mk4 11 (some 187) (.pick (.t 180) (.c (.bool true)) (.t 186)) none] [0, 3, 4, 5, 187]) (.cond (.t 187) (.seq (.region 0 [.mk4 0 (some 2) (.mv (.c (.bool false))) none] [2]) (.ret)) (.skip))
def c6_5 : AC :=
  .seq (.region 0 [.mk4 0 (some 45) (.mv (.t 3)) none,
    .mk4 1 (some 46) (.mv (.t 6)) none,
    .mk4 2 (some 47) (.mv (.t 7)) none,
    .mk4 3 (some 48) (.call 14 [(.t 45), (.t 46), (.t 47)]) none,
    .mk4 4 (some 49) (.mv (.t 6)) none,
    .mk4 5 (some 50) (.mv (.t 7)) none,
    .mk4 6 (some 51) (.call 19 [(.t 4), (.t 49), (.t 50)]) none,
    .mk4 7 (some 52) (.bin .neq (.t 48) (.t 51)) none] [0, 3, 4, 5, 52]) (.cond (.t 52) (.seq (.region 0 [.mk4 0 (some 2) (.mv (.c (.bool false))) none] [2]) (.ret)) (.skip))
def c6_6 : AC :=
  .region 0 [.mk4 0 (some 111) (.mv (.t 9)) none,
    .mk4 1 (some 112) (.mv (.t 8)) none,
    .mk4 2 (some 113) (.mv (.t 10)) none,
    .mk4 3 (some 114) (.ixaS 2 (.t 112) (.t 113)) none,
    .mk4 4 (some 115) (.faddr 1 (.t 114)) none,
    .mk4 5 (some 116) (.load1 (.t 115)) none,
    .mk4 6 (some 117) (.bin .add (.t 111) (.t 116)) none,
    .mk4 7 (some 9) (.mv (.t 117)) none] [0, 3, 4, 5, 8, 9, 10]
def c6_7 : AC :=
  .seq (.seq (.region 0 [.mk4 0 (some 71) (.mv (.t 8)) none,
    .mk4 1 (some 72) (.mv (.t 10)) none,
    .mk4 2 (some 73) (.ixaS 2 (.t 71) (.t 72)) none,
    .mk4 3 (some 74) (.faddr 1 (.t 73)) none,
    .mk4 4 (some 75) (.load1 (.t 74)) none,
    .mk4 5 (some 76) (.bin .lss (.t 75) (.c (.i 1))) none,
    .mk4 6 (some 77) (.mv (.t 76)) none,
    .mk4 7 (some 78) (.mv (.t 8)) (some (77, false)),
    .mk4 8 (some 79) (.mv (.t 10)) (some (77, false)),
    .mk4 9 (some 80) (.ixaS 2 (.t 78) (.t 79)) (some (77, false)),
    .mk4 10 (some 81) (.faddr 1 (.t 80)) (some (77, false)),
    .mk4 11 (some 82) (.load1 (.t 81)) (some (77, false)),
    .mk4 12 (some 83) (.faddr 1 (.t 4)) (some (77, false)),
    .mk4 13 (some 84) (.load1 (.t 83)) (some (77, false)),
    .mk4 14 (some 85) (.mv (.t 8)) (some (77, false)),
    .mk4 15 (some 86) (.mv (.t 10)) (some (77, false)),
    .mk4 16 (some 87) (.ixaS 2 (.t 85) (.t 86)) (some (77, false)),
    .mk4 17 (some 88) (.faddr 0 (.t 87)) (some (77, false)),
    .mk4 18 (some 89) (.load1 (.t 88)) (some (77, false)),
    ⟨19, (some 90), .call 21 [(.t 84), (.t 89)], (some (77, false)), none, [(82, .load1 (.t 81), (some (77, false)))]⟩,
    .mk4 20 (some 91) (.bin .neq (.t 82) (.t 90)) (some (77, false)),
    .mk4 21 (some 92) (.pick (.t 77) (.c (.bool true)) (.t 91)) none,
    .mk4 22 (some 93) (.mv (.t 92)) none,
    .mk4 23 (some 94) (.mv (.t 10)) (some (93, false)),
    .mk4 24 (some 95) (.bin .gtr (.t 94) (.c (.i 0))) (some (93, false)),
    .mk4 25 (some 96) (.mv (.t 95)) (some (93, false)),
    .mk4 26 (some 97) (.mv (.t 8)) (some (96, true)),
    .mk4 27 (some 98) (.mv (.t 10)) (some (96, true)),
    .mk4 28 (some 99) (.ixaS 2 (.t 97) (.t 98)) (some (96, true)),
    .mk4 29 (some 100) (.faddr 0 (.t 99)) (some (96, true)),
    .mk4 30 (some 101) (.load1 (.t 100)) (some (96, true)),
    .mk4 31 (some 102) (.mv (.t 8)) (some (96, true)),
    .mk4 32 (some 103) (.mv (.t 10)) (some (96, true)),
    .mk4 33 (some 104) (.bin .sub (.t 103) (.c (.i 1))) (some (96, true)),
    .mk4 34 (some 105) (.ixaS 2 (.t 102) (.t 104)) (some (96, true)),
    .mk4 35 (some 106) (.faddr 0 (.t 105)) (some (96, true)),
    .mk4 36 (some 107) (.load1 (.t 106)) (some (96, true)),
    .mk4 37 (some 108) (.bin .leq (.t 101) (.t 107)) (some (96, true)),
    .mk4 38 (some 109) (.pick (.t 96) (.t 108) (.c (.bool false))) (some (93, false)),
    .mk4 39 (some 110) (.pick (.t 93) (.c (.bool true)) (.t 109)) none] [0, 3, 4, 5, 8, 9, 10, 110]) (.cond (.t 110) (.seq (.region 0 [.mk4 0 (some 2) (.mv (.c (.bool false))) none] [2]) (.ret)) (.skip))) (c6_6)
def c6_8 : AC :=
  .seq (.seq (.region 0 [.mk4 0 (some 65) (.mv (.t 10)) none,
    .mk4 1 (some 66) (.mv (.t 8)) none,
    .mk4 2 (some 67) (.lenL (.t 66)) none,
    .mk4 3 (some 68) (.bin .lss (.t 65) (.t 67)) none] [0, 3, 4, 5, 8, 9, 10, 68]) (.cond (.t 68) (.skip) (.exit 3))) (.seq (.block 4 (c6_7)) (.region 0 [.mk4 0 (some 69) (.mv (.t 10)) none,
    .mk4 1 (some 70) (.bin .add (.t 69) (.c (.i 1))) none,
    .mk4 2 (some 10) (.mv (.t 70)) none] [0, 3, 4, 5, 8, 9, 10]))
def c6_9 : AC :=
  .seq (.seq (.region 0 [.mk4 0 (some 118) (.mv (.t 9)) none,
    .mk4 1 (some 119) (.faddr 1 (.t 4)) none,
    .mk4 2 (some 120) (.load1 (.t 119)) none,
    .mk4 3 (some 121) (.lenL (.t 120)) none,
    .mk4 4 (some 122) (.bin .neq (.t 118) (.t 121)) none] [0, 3, 4, 5, 122]) (.cond (.t 122) (.seq (.region 0 [.mk4 0 (some 2) (.mv (.c (.bool false))) none] [2]) (.ret)) (.skip))) (.region 0 [.mk4 0 (some 123) (.faddr 1 (.t 4)) none,
    .mk4 1 none (.store 1 (.t 123) (.c (.nils))) none] [0, 3, 4, 5])
def c6_10 : AC :=
  .seq (.region 0 [.mk4 0 (some 128) (.mv (.t 3)) none,
    .mk4 1 (some 129) (.mv (.t 6)) none,
    .mk4 2 (some 130) (.call 14 [(.t 128), (.t 129), (.c (.bool false))]) none] [0, 3, 4, 5, 6, 11]) (.seq (.region 0 [.mk4 0 (some 131) (.mv (.t 3)) none,
    .mk4 1 (some 132) (.mv (.t 6)) none,
    .mk4 2 (some 133) (.call 15 [(.t 131), (.t 132)]) none] [0, 4, 5, 11]) (.region 0 [.mk4 0 (some 134) (.mv (.t 11)) none,
    .mk4 1 (some 3) (.mv (.t 134)) none] [0, 3, 4, 5]))
def c6_11 : AC :=
  .seq (.region 0 [.mk4 0 (some 63) (.mv (.t 3)) none,
    .mk4 1 (some 64) (.call 16 [(.t 63)]) none,
    .mk4 2 (some 8) (.mv (.t 64)) none] [0, 3, 4, 5, 8]) (.seq (.region 0 [.mk4 0 (some 9) (.mv (.c (.i 0))) none] [0, 3, 4, 5, 8, 9]) (.seq (.seq (.region 0 [.mk4 0 (some 10) (.mv (.c (.i 0))) none] [0, 3, 4, 5, 8, 9, 10]) (.block 3 (.loop [0, 3, 4, 5, 8, 9, 10] (c6_8)))) (c6_9)))
def c6_12 : AC :=
  .seq (.region 0 [.mk4 0 (some 125) (.bin .eql (.t 35) (.c (.i 4))) none,
    .mk4 1 (some 124) (.mv (.t 125)) none] [0, 3, 4, 5, 6, 124]) (.cond (.t 124) (.seq (.region 0 [.mk4 0 (some 126) (.mv (.t 3)) none,
    .mk4 1 (some 127) (.call 22 [(.t 126)]) none,
    .mk4 2 (some 11) (.mv (.t 127)) none] [0, 3, 4, 5, 6, 11]) (c6_10)) (.skip))
def c6_13 : AC :=
  .seq (.region 0 [.mk4 0 (some 55) (.mv (.t 3)) none,
    .mk4 1 (some 56) (.mv (.t 6)) none,
    .mk4 2 (some 57) (.call 15 [(.t 55), (.t 56)]) none,
    .mk4 3 (some 58) (.mv (.t 6)) none,
    .mk4 4 (some 59) (.call 20 [(.t 4), (.t 58)]) none,
    .mk4 5 (some 60) (.bin .neq (.t 57) (.t 59)) none] [0, 3, 4, 5, 60]) (.cond (.t 60) (.seq (.region 0 [.mk4 0 (some 2) (.mv (.c (.bool false))) none] [2]) (.ret)) (.skip))
def c6_14 : AC :=
  .seq (.region 0 [.mk4 0 (some 39) (.mv (.t 0)) none,
    .mk4 1 (some 40) (.mv (.t 5)) none,
    .mk4 2 (some 41) (.ixaS 2 (.t 39) (.t 40)) none,
    .mk4 3 (some 42) (.faddr 0 (.t 41)) none,
    .mk4 4 (some 43) (.load1 (.t 42)) none,
    .mk4 5 (some 44) (.bin .eql (.t 43) (.c (.i 0))) none,
    .mk4 6 (some 7) (.mv (.t 44)) none] [0, 3, 4, 5, 6, 7]) (c6_5)
def c6_15 : AC :=
  .seq (.region 0 [.mk4 0 (some 54) (.bin .eql (.t 35) (.c (.i 2))) none,
    .mk4 1 (some 53) (.mv (.t 54)) none] [0, 3, 4, 5, 6, 35, 53]) (.cond (.t 53) (c6_13) (.seq (.region 0 [.mk4 0 (some 62) (.bin .eql (.t 35) (.c (.i 3))) none,
    .mk4 1 (some 61) (.mv (.t 62)) none] [0, 3, 4, 5, 6, 35, 61]) (.cond (.t 61) (c6_11) (c6_12))))
def c6_16 : AC :=
  .seq (.seq (.region 0 [.mk4 0 (some 37) (.bin .eql (.t 35) (.c (.i 0))) none,
    .mk4 1 (some 36) (.mv (.t 37)) none] [0, 3, 4, 5, 6, 35, 36]) (.cond (.t 36) (.skip) (.region 0 [.mk4 0 (some 38) (.bin .eql (.t 35) (.c (.i 1))) none,
    .mk4 1 (some 36) (.mv (.t 38)) none] [0, 3, 4, 5, 6, 35, 36]))) (.cond (.t 36) (c6_14) (c6_15))
def c6_17 : AC :=
  .seq (.region 0 [.mk4 0 (some 135) (.mv (.t 3)) none,
    .mk4 1 (some 136) (.call 23 [(.t 135)]) none,
    .mk4 2 (some 12) (.mv (.t 136)) none] [0, 3, 4, 5, 12]) (.seq (.region 0 [.mk4 0 (some 13) (.mv (.c (.i 0))) none] [0, 3, 4, 5, 12, 13]) (.seq (.seq (.region 0 [.mk4 0 (some 14) (.mv (.c (.i (-1)))) none] [0, 3, 4, 5, 12, 13, 14]) (.block 5 (.loop [0, 3, 4, 5, 12, 13, 14] (c6_3)))) (c6_4)))
def c6_18 : AC :=
  .seq (.region 0 [.mk4 0 (some 26) (.mv (.t 0)) none,
    .mk4 1 (some 27) (.mv (.t 5)) none,
    .mk4 2 (some 28) (.ixaS 2 (.t 26) (.t 27)) none,
    .mk4 3 (some 29) (.faddr 1 (.t 28)) none,
    .mk4 4 (some 30) (.load1 (.t 29)) none,
    .mk4 5 (some 6) (.mv (.t 30)) none] [0, 3, 4, 5, 6]) (.seq (.seq (.region 0 [.mk4 0 (some 31) (.mv (.t 0)) none,
    .mk4 1 (some 32) (.mv (.t 5)) none,
    .mk4 2 (some 33) (.ixaS 2 (.t 31) (.t 32)) none,
    .mk4 3 (some 34) (.faddr 0 (.t 33)) none,
    .mk4 4 (some 35) (.load1 (.t 34)) none] [0, 3, 4, 5, 6, 35]) (.block 2 (c6_16))) (c6_17))
def c6_19 : AC :=
  .seq (.seq (.region 0 [.mk4 0 (some 20) (.mv (.t 5)) none,
    .mk4 1 (some 21) (.mv (.t 0)) none,
    .mk4 2 (some 22) (.lenL (.t 21)) none,
    .mk4 3 (some 23) (.bin .lss (.t 20) (.t 22)) none] [0, 3, 4, 5, 23]) (.cond (.t 23) (.skip) (.exit 0))) (.seq (.block 1 (c6_18)) (.region 0 [.mk4 0 (some 24) (.mv (.t 5)) none,
    .mk4 1 (some 25) (.bin .add (.t 24) (.c (.i 1))) none,
    .mk4 2 (some 5) (.mv (.t 25)) none] [0, 3, 4, 5]))
def c6_20 : AC :=
  .seq (.region 0 [.mk4 0 (some 19) (.call 13 []) none,
    .mk4 1 (some 3) (.mv (.t 19)) none] [0, 3]) (.seq (.region 0 [.mk4 0 (some 4) (.alloc 2 [.nils, .nils]) none] [0, 3, 4]) (.seq (.seq (.region 0 [.mk4 0 (some 5) (.mv (.c (.i 0))) none] [0, 3, 4, 5]) (.block 0 (.loop [0, 3, 4, 5] (c6_19)))) (.seq (.region 0 [.mk4 0 (some 2) (.mv (.c (.bool true))) none] [2]) (.ret))))
def c6_21 : AC :=
  .seq (.region 0 [.mk4 0 (some 2) (.mv (.c (.bool false))) none] [0]) (.seq (.seq (.region 0 [.mk4 0 (some 16) (.mv (.t 0)) none,
    .mk4 1 (some 17) (.lenL (.t 16)) none,
    .mk4 2 (some 18) (.bin .gtr (.t 17) (.c (.i 150))) none] [0, 18]) (.cond (.t 18) (.seq (.region 0 [.mk4 0 (some 2) (.mv (.c (.bool true))) none] [2]) (.ret)) (.skip))) (c6_20))
def c6 : AFn := ⟨1, 188, [.tmp 2],
  (c6_21)⟩
def c8_0 : AC :=
  .seq (.region 0 [.mk4 0 (some 123) (.mv (.t 11)) none,
    .mk4 1 (some 124) (.mv (.t 13)) none,
    .mk4 2 (some 125) (.ixaS 2 (.t 123) (.t 124)) none,
    .mk4 3 (some 126) (.faddr 1 (.t 125)) none,
    .mk4 4 (some 127) (.load1 (.t 126)) none,
    .mk4 5 (some 128) (.bin .lss (.t 127) (.c (.i 1))) none,
    .mk4 6 (some 129) (.mv (.t 128)) none,
    .mk4 7 (some 130) (.mv (.t 13)) (some (129, false)),
    .mk4 8 (some 131) (.bin .gtr (.t 130) (.c (.i 0))) (some (129, false)),
    .mk4 9 (some 132) (.mv (.t 131)) (some (129, false)),
    .mk4 10 (some 133) (.mv (.t 11)) (some (132, true)),
    .mk4 11 (some 134) (.mv (.t 13)) (some (132, true)),
    .mk4 12 (some 135) (.ixaS 2 (.t 133) (.t 134)) (some (132, true)),
    .mk4 13 (some 136) (.faddr 0 (.t 135)) (some (132, true)),
    .mk4 14 (some 137) (.load1 (.t 136)) (some (132, true)),
    .mk4 15 (some 138) (.mv (.t 11)) (some (132, true)),
    .mk4 16 (some 139) (.mv (.t 13)) (some (132, true)),
    .mk4 17 (some 140) (.bin .sub (.t 139) (.c (.i 1))) (some (132, true)),
    .mk4 18 (some 141) (.ixaS 2 (.t 138) (.t 140)) (some (132, true)),
    .mk4 19 (some 142) (.faddr 0 (.t 141)) (some (132, true)),
    .mk4 20 (some 143) (.load1 (.t 142)) (some (132, true)),
    .mk4 21 (some 144) (.bin .leq (.t 137) (.t 143)) (some (132, true)),
    .mk4 22 (some 145) (.pick (.t 132) (.t 144) (.c (.bool false))) (some (129, false)),
    .mk4 23 (some 146) (.pick (.t 129) (.c (.bool true)) (.t 145)) none] [5, 6, 9, 10, 11, 12, 13, 146]) (.cond (.t 146) (.seq (.region 0 [.mk4 0 (some 4) (.mv (.c (.bool false))) none] [4]) (.ret)) (.skip))
def c8_1 : AC :=
  .seq (.region 0 [.mk4 0 (some 116) (.mv (.t 12)) none,
    .mk4 1 (some 117) (.mv (.t 11)) none,
    .mk4 2 (some 118) (.mv (.t 13)) none,
    .mk4 3 (some 119) (.ixaS 2 (.t 117) (.t 118)) none,
    .mk4 4 (some 120) (.faddr 1 (.t 119)) none,
    .mk4 5 (some 121) (.load1 (.t 120)) none,
    .mk4 6 (some 122) (.bin .add (.t 116) (.t 121)) none,
    .mk4 7 (some 12) (.mv (.t 122)) none] [5, 6, 9, 10, 11, 12, 13]) (c8_0)
def c8_2 : AC :=
  .seq (.seq (.region 0 [.mk4 0 (some 110) (.mv (.t 13)) none,
    .mk4 1 (some 111) (.mv (.t 11)) none,
    .mk4 2 (some 112) (.lenL (.t 111)) none,
    .mk4 3 (some 113) (.bin .lss (.t 110) (.t 112)) none] [5, 6, 9, 10, 11, 12, 13, 113]) (.cond (.t 113) (.skip) (.exit 2))) (.seq (.block 3 (c8_1)) (.region 0 [.mk4 0 (some 114) (.mv (.t 13)) none,
    .mk4 1 (some 115) (.bin .add (.t 114) (.c (.i 1))) none,
    .mk4 2 (some 13) (.mv (.t 115)) none] [5, 6, 9, 10, 11, 12, 13]))
def c8_3 : AC :=
  .seq (.region 0 [.mk4 0 (some 147) (.mv (.t 5)) none,
    .mk4 1 (some 148) (.mv (.t 147)) none,
    .mk4 2 (some 149) (.mv (.t 12)) (some (148, true)),
    .mk4 3 (some 150) (.mv (.t 9)) (some (148, true)),
    .mk4 4 (some 151) (.bin .eql (.t 149) (.t 150)) (some (148, true)),
    .mk4 5 (some 152) (.pick (.t 148) (.t 151) (.c (.bool false))) none,
    .mk4 6 (some 153) (.mv (.t 152)) none,
    .mk4 7 (some 154) (.mv (.t 6)) (some (153, true)),
    .mk4 8 (some 155) (.call 24 [(.t 154)]) (some (153, true)),
    .mk4 9 (some 156) (.bin .eql (.t 155) (.c (.i 0))) (some (153, true)),
    .mk4 10 (some 157) (.pick (.t 153) (.t 156) (.c (.bool false))) none,
    .mk4 11 (some 158) (.mv (.t 157)) none,
    .mk4 12 (some 159) (.mv (.t 10)) (some (158, true)),
    .mk4 13 (some 160) (.lenL (.t 159)) (some (158, true)),
    .mk4 14 (some 161) (.mv (.t 11)) (some (158, true)),
    .mk4 15 (some 162) (.lenL (.t 161)) (some (158, true)),
    .mk4 16 (some 163) (.bin .geq (.t 160) (.t 162)) (some (158, true)),
    .mk4 17 (some 164) (.pick (.t 158) (.t 163) (.c (.bool false))) none,
    .mk4 18 (some 4) (.mv (.t 164)) none] [4]) (.ret)
def c8_4 : AC :=
  .seq (.region 0 [.mk4 0 (some 108) (.mv (.t 6)) none,
    .mk4 1 (some 109) (.call 16 [(.t 108)]) none,
    .mk4 2 (some 11) (.mv (.t 109)) none] [5, 6, 9, 10, 11]) (.seq (.region 0 [.mk4 0 (some 12) (.mv (.c (.i 0))) none] [5, 6, 9, 10, 11, 12]) (.seq (.seq (.region 0 [.mk4 0 (some 13) (.mv (.c (.i 0))) none] [5, 6, 9, 10, 11, 12, 13]) (.block 2 (.loop [5, 6, 9, 10, 11, 12, 13] (c8_2)))) (c8_3)))
def c8_5 : AC :=
  .seq (.seq (.region 0 [.mk4 0 (some 99) (.mv (.t 6)) none,
    .mk4 1 (some 100) (.call 24 [(.t 99)]) none,
    .mk4 2 (some 101) (.mv (.t 9)) none,
    .mk4 3 (some 102) (.bin .neq (.t 100) (.t 101)) none,
    .mk4 4 (some 103) (.mv (.t 102)) none,
    .mk4 5 (some 104) (.mv (.t 8)) (some (103, false)),
    .mk4 6 (some 105) (.call 24 [(.t 104)]) (some (103, false)),
    .mk4 7 (some 106) (.bin .neq (.t 105) (.c (.i 0))) (some (103, false)),
    .mk4 8 (some 107) (.pick (.t 103) (.c (.bool true)) (.t 106)) none] [5, 6, 9, 10, 107]) (.cond (.t 107) (.seq (.region 0 [.mk4 0 (some 4) (.mv (.c (.bool false))) none] [4]) (.ret)) (.skip))) (c8_4)
def c8_6 : AC :=
  .seq (.region 0 [.mk4 0 (some 94) (.mv (.t 8)) none,
    .mk4 1 (some 95) (.mv (.t 1)) none,
    .mk4 2 (some 96) (.call 15 [(.t 94), (.t 95)]) none] [5, 6, 8, 9]) (.seq (.region 0 [.mk4 0 (some 97) (.mv (.t 8)) none,
    .mk4 1 (some 98) (.call 16 [(.t 97)]) none,
    .mk4 2 (some 10) (.mv (.t 98)) none] [5, 6, 8, 9, 10]) (c8_5))
def c8_7 : AC :=
  .seq (.region 0 [.mk4 0 (some 89) (.mv (.t 6)) none,
    .mk4 1 (some 90) (.call 24 [(.t 89)]) none,
    .mk4 2 (some 9) (.mv (.t 90)) none] [1, 5, 6, 8, 9]) (.seq (.region 0 [.mk4 0 (some 91) (.mv (.t 8)) none,
    .mk4 1 (some 92) (.mv (.t 1)) none,
    .mk4 2 (some 93) (.call 14 [(.t 91), (.t 92), (.c (.bool true))]) none] [1, 5, 6, 8, 9]) (c8_6))
def c8_8 : AC :=
  .seq (.seq (.region 0 [.mk4 0 (some 53) (.mv (.t 8)) none,
    .mk4 1 (some 54) (.eq .ptr false (.t 53) (.c (.ptr none))) none,
    .mk4 2 (some 55) (.mv (.t 54)) none,
    .mk4 3 (some 56) (.mv (.t 8)) (some (55, false)),
    .mk4 4 (some 57) (.call 24 [(.t 56)]) (some (55, false)),
    .mk4 5 (some 58) (.mv (.t 6)) (some (55, false)),
    .mk4 6 (some 59) (.call 24 [(.t 58)]) (some (55, false)),
    .mk4 7 (some 60) (.bin .neq (.t 57) (.t 59)) (some (55, false)),
    .mk4 8 (some 61) (.pick (.t 55) (.c (.bool true)) (.t 60)) none,
    .mk4 9 (some 62) (.mv (.t 61)) none,
    .mk4 10 (some 63) (.mv (.t 8)) (some (62, false)),
    .mk4 11 (some 64) (.mv (.t 1)) (some (62, false)),
    .mk4 12 (some 65) (.call 17 [(.t 63), (.t 64)]) (some (62, false)),
    .mk4 13 (some 66) (.mv (.t 6)) (some (62, false)),
    .mk4 14 (some 67) (.mv (.t 1)) (some (62, false)),
    .mk4 15 (some 68) (.call 17 [(.t 66), (.t 67)]) (some (62, false)),
    .mk4 16 (some 69) (.bin .neq (.t 65) (.t 68)) (some (62, false)),
    .mk4 17 (some 70) (.pick (.t 62) (.c (.bool true)) (.t 69)) none,
    .mk4 18 (some 71) (.mv (.t 70)) none,
    .mk4 19 (some 72) (.mv (.t 8)) (some (71, false)),
    .mk4 20 (some 73) (.mv (.t 1)) (some (71, false)),
    .mk4 21 (some 74) (.call 18 [(.t 72), (.t 73)]) (some (71, false)),
    .mk4 22 (some 75) (.mv (.t 6)) (some (71, false)),
    .mk4 23 (some 76) (.mv (.t 1)) (some (71, false)),
    .mk4 24 (some 77) (.call 18 [(.t 75), (.t 76)]) (some (71, false)),
    .mk4 25 (some 78) (.eq .bool true (.t 74) (.t 77)) (some (71, false)),
    .mk4 26 (some 79) (.pick (.t 71) (.c (.bool true)) (.t 78)) none,
    .mk4 27 (some 80) (.mv (.t 79)) none,
    .mk4 28 (some 81) (.mv (.t 8)) (some (80, false)),
    .mk4 29 (some 82) (.call 23 [(.t 81)]) (some (80, false)),
    .mk4 30 (some 83) (.lenL (.t 82)) (some (80, false)),
    .mk4 31 (some 84) (.mv (.t 6)) (some (80, false)),
    .mk4 32 (some 85) (.call 23 [(.t 84)]) (some (80, false)),
    .mk4 33 (some 86) (.lenL (.t 85)) (some (80, false)),
    .mk4 34 (some 87) (.bin .neq (.t 83) (.t 86)) (some (80, false)),
    .mk4 35 (some 88) (.pick (.t 80) (.c (.bool true)) (.t 87)) none] [1, 5, 6, 8, 88]) (.cond (.t 88) (.seq (.region 0 [.mk4 0 (some 4) (.mv (.c (.bool false))) none] [4]) (.ret)) (.skip))) (c8_7)
def c8_9 : AC :=
  .region 0 [.mk4 0 (some 44) (.mv (.t 6)) none,
    .mk4 1 (some 45) (.mv (.t 0)) none,
    .mk4 2 (some 46) (.mv (.t 7)) none,
    .mk4 3 (some 47) (.ixaS 2 (.t 45) (.t 46)) none,
    .mk4 4 (some 48) (.faddr 1 (.t 47)) none,
    .mk4 5 (some 49) (.load1 (.t 48)) none,
    .mk4 6 (some 50) (.call 15 [(.t 44), (.t 49)]) none] [0, 1, 5, 6, 7]
def c8_10 : AC :=
  .seq (.region 0 [.mk4 0 (some 30) (.mv (.t 6)) none,
    .mk4 1 (some 31) (.mv (.t 0)) none,
    .mk4 2 (some 32) (.mv (.t 7)) none,
    .mk4 3 (some 33) (.ixaS 2 (.t 31) (.t 32)) none,
    .mk4 4 (some 34) (.faddr 1 (.t 33)) none,
    .mk4 5 (some 35) (.load1 (.t 34)) none,
    .mk4 6 (some 36) (.mv (.t 0)) none,
    .mk4 7 (some 37) (.mv (.t 7)) none,
    .mk4 8 (some 38) (.ixaS 2 (.t 36) (.t 37)) none,
    .mk4 9 (some 39) (.faddr 0 (.t 38)) none,
    .mk4 10 (some 40) (.load1 (.t 39)) none,
    .mk4 11 (some 41) (.bin .rem (.t 40) (.c (.i 3))) none,
    .mk4 12 (some 42) (.bin .neq (.t 41) (.c (.i 0))) none,
    .mk4 13 (some 43) (.call 14 [(.t 30), (.t 35), (.t 42)]) none] [0, 1, 5, 6, 7]) (c8_9)
def c8_11 : AC :=
  .seq (.seq (.region 0 [.mk4 0 (some 24) (.mv (.t 7)) none,
    .mk4 1 (some 25) (.mv (.t 0)) none,
    .mk4 2 (some 26) (.lenL (.t 25)) none,
    .mk4 3 (some 27) (.bin .lss (.t 24) (.t 26)) none] [0, 1, 5, 6, 7, 27]) (.cond (.t 27) (.skip) (.exit 0))) (.seq (.block 1 (c8_10)) (.region 0 [.mk4 0 (some 28) (.mv (.t 7)) none,
    .mk4 1 (some 29) (.bin .add (.t 28) (.c (.i 1))) none,
    .mk4 2 (some 7) (.mv (.t 29)) none] [0, 1, 5, 6, 7]))
def c8_12 : AC :=
  .seq (.region 0 [.mk4 0 (some 23) (.call 13 []) none,
    .mk4 1 (some 6) (.mv (.t 23)) none] [0, 1, 5, 6]) (.seq (.seq (.region 0 [.mk4 0 (some 7) (.mv (.c (.i 0))) none] [0, 1, 5, 6, 7]) (.block 0 (.loop [0, 1, 5, 6, 7] (c8_11)))) (.seq (.region 0 [.mk4 0 (some 51) (.mv (.t 6)) none,
    .mk4 1 (some 52) (.call 22 [(.t 51)]) none,
    .mk4 2 (some 8) (.mv (.t 52)) none] [1, 5, 6, 8]) (c8_8)))
def c8_13 : AC :=
  .seq (.seq (.region 0 [.mk4 0 (some 15) (.mv (.t 0)) none,
    .mk4 1 (some 16) (.lenL (.t 15)) none,
    .mk4 2 (some 17) (.bin .gtr (.t 16) (.c (.i 200))) none,
    .mk4 3 (some 18) (.mv (.t 17)) none,
    .mk4 4 (some 19) (.mv (.t 5)) (some (18, false)),
    .mk4 5 (some 20) (.un .not (.t 19)) (some (18, false)),
    .mk4 6 (some 21) (.pick (.t 18) (.c (.bool true)) (.t 20)) none] [0, 1, 5, 21]) (.cond (.t 21) (.seq (.region 0 [.mk4 0 (some 22) (.mv (.t 5)) none,
    .mk4 1 (some 4) (.mv (.t 22)) none] [4]) (.ret)) (.skip))) (c8_12)
def c8 : AFn := ⟨2, 165, [.tmp 4],
  (.seq (.region 0 [.mk4 0 (some 4) (.mv (.c (.bool false))) none] [0, 1]) (.seq (.region 0 [.mk4 0 (some 14) (.call 12 []) none,
    .mk4 1 (some 5) (.mv (.t 14)) none] [0, 1, 5]) (c8_13)))⟩
def c9_0 : AC :=
  .seq (.seq (.region 0 [.mk4 0 (some 15) (.mv (.t 1)) none,
    .mk4 1 (some 16) (.bin .and (.t 15) (.c (.i 28))) none,
    .mk4 2 (some 17) (.bin .neq (.t 16) (.c (.i 0))) none] [0, 6, 17]) (.cond (.t 17) (.region 0 [.mk4 0 (some 18) (.mv (.t 6)) none,
    .mk4 1 (some 19) (.bin .or (.t 18) (.c (.i 4))) none,
    .mk4 2 (some 6) (.mv (.t 19)) none] [0, 6]) (.skip))) (.seq (.region 0 [.mk4 0 (some 20) (.mv (.t 6)) none,
    .mk4 1 (some 21) (.mv (.t 0)) none,
    .mk4 2 (some 22) (.bin .and (.t 20) (.t 21)) none,
    .mk4 3 (some 4) (.mv (.t 22)) none,
    .mk4 4 (some 5) (.mv (.c (.i 0))) none] [4, 5]) (.ret))
def c9_1 : AC :=
  .seq (.seq (.region 0 [.mk4 0 (some 10) (.mv (.t 1)) none,
    .mk4 1 (some 11) (.bin .and (.t 10) (.c (.i 25))) none,
    .mk4 2 (some 12) (.bin .neq (.t 11) (.c (.i 0))) none] [0, 1, 6, 12]) (.cond (.t 12) (.region 0 [.mk4 0 (some 13) (.mv (.t 6)) none,
    .mk4 1 (some 14) (.bin .or (.t 13) (.c (.i 2))) none,
    .mk4 2 (some 6) (.mv (.t 14)) none] [0, 1, 6]) (.skip))) (c9_0)
def c9_2 : AC :=
  .seq (.seq (.region 0 [.mk4 0 (some 7) (.mv (.t 1)) none,
    .mk4 1 (some 8) (.bin .and (.t 7) (.c (.i 32))) none,
    .mk4 2 (some 9) (.bin .neq (.t 8) (.c (.i 0))) none] [0, 1, 9]) (.cond (.t 9) (.seq (.region 0 [.mk4 0 (some 4) (.mv (.c (.i 0))) none,
    .mk4 1 (some 5) (.mv (.c (.i 110))) none] [4, 5]) (.ret)) (.skip))) (.seq (.region 0 [.mk4 0 (some 6) (.mv (.c (.i 0))) none] [0, 1, 6]) (c9_1))
def c9 : AFn := ⟨2, 23, [.tmp 4, .tmp 5],
  (.seq (.region 0 [.mk4 0 (some 4) (.mv (.c (.i 0))) none,
    .mk4 1 (some 5) (.mv (.c (.i 0))) none] [0, 1]) (c9_2))⟩
def c10_0 : AC :=
  .seq (.seq (.region 0 [.mk4 0 (some 25) (.mv (.t 0)) none,
    .mk4 1 (some 26) (.call 25 [(.t 25), (.c (.i 4))]) none,
    .mk4 2 (some 27) (.mv (.t 26)) none,
    .mk4 3 (some 28) (.mv (.t 1)) (some (27, true)),
    .mk4 4 (some 29) (.call 25 [(.t 28), (.c (.i 4))]) (some (27, true)),
    .mk4 5 (some 30) (.mv (.t 29)) (some (27, true)),
    .mk4 6 (some 31) (.mv (.t 1)) (some (30, false)),
    .mk4 7 (some 32) (.call 25 [(.t 31), (.c (.i 8))]) (some (30, false)),
    .mk4 8 (some 33) (.pick (.t 30) (.c (.bool true)) (.t 32)) (some (27, true)),
    .mk4 9 (some 34) (.mv (.t 33)) (some (27, true)),
    .mk4 10 (some 35) (.mv (.t 1)) (some (34, false)),
    .mk4 11 (some 36) (.call 25 [(.t 35), (.c (.i 16))]) (some (34, false)),
    .mk4 12 (some 37) (.pick (.t 34) (.c (.bool true)) (.t 36)) (some (27, true)),
    .mk4 13 (some 38) (.pick (.t 27) (.t 37) (.c (.bool false))) none] [6, 38]) (.cond (.t 38) (.region 0 [.mk4 0 (some 39) (.mv (.t 6)) none,
    .mk4 1 (some 40) (.bin .add (.t 39) (.c (.i 4))) none,
    .mk4 2 (some 6) (.mv (.t 40)) none] [6]) (.skip))) (.seq (.region 0 [.mk4 0 (some 41) (.mv (.t 6)) none,
    .mk4 1 (some 4) (.mv (.t 41)) none,
    .mk4 2 (some 5) (.mv (.c (.i 0))) none] [4, 5]) (.ret))
def c10_1 : AC :=
  .seq (.seq (.region 0 [.mk4 0 (some 9) (.mv (.t 0)) none,
    .mk4 1 (some 10) (.call 25 [(.t 9), (.c (.i 2))]) none,
    .mk4 2 (some 11) (.mv (.t 10)) none,
    .mk4 3 (some 12) (.mv (.t 1)) (some (11, true)),
    .mk4 4 (some 13) (.call 25 [(.t 12), (.c (.i 1))]) (some (11, true)),
    .mk4 5 (some 14) (.mv (.t 13)) (some (11, true)),
    .mk4 6 (some 15) (.mv (.t 1)) (some (14, false)),
    .mk4 7 (some 16) (.call 25 [(.t 15), (.c (.i 8))]) (some (14, false)),
    .mk4 8 (some 17) (.pick (.t 14) (.c (.bool true)) (.t 16)) (some (11, true)),
    .mk4 9 (some 18) (.mv (.t 17)) (some (11, true)),
    .mk4 10 (some 19) (.mv (.t 1)) (some (18, false)),
    .mk4 11 (some 20) (.call 25 [(.t 19), (.c (.i 16))]) (some (18, false)),
    .mk4 12 (some 21) (.pick (.t 18) (.c (.bool true)) (.t 20)) (some (11, true)),
    .mk4 13 (some 22) (.pick (.t 11) (.t 21) (.c (.bool false))) none] [0, 1, 6, 22]) (.cond (.t 22) (.region 0 [.mk4 0 (some 23) (.mv (.t 6)) none,
    .mk4 1 (some 24) (.bin .add (.t 23) (.c (.i 2))) none,
    .mk4 2 (some 6) (.mv (.t 24)) none] [0, 1, 6]) (.skip))) (c10_0)
def c10_2 : AC :=
  .seq (.seq (.region 0 [.mk4 0 (some 7) (.mv (.t 1)) none,
    .mk4 1 (some 8) (.call 25 [(.t 7), (.c (.i 32))]) none] [0, 1, 8]) (.cond (.t 8) (.seq (.region 0 [.mk4 0 (some 4) (.mv (.c (.i 0))) none,
    .mk4 1 (some 5) (.mv (.c (.i 110))) none] [4, 5]) (.ret)) (.skip))) (.seq (.region 0 [.mk4 0 (some 6) (.mv (.c (.i 0))) none] [0, 1, 6]) (c10_1))
def c10 : AFn := ⟨2, 42, [.tmp 4, .tmp 5],
  (.seq (.region 0 [.mk4 0 (some 4) (.mv (.c (.i 0))) none,
    .mk4 1 (some 5) (.mv (.c (.i 0))) none] [0, 1]) (c10_2))⟩
def c11_0 : AC :=
  .seq (.seq (.region 0 [.mk4 0 (some 9) (.mv (.t 0)) none,
    .mk4 1 (some 10) (.bin .and (.t 9) (.c (.i 4))) none,
    .mk4 2 (some 11) (.bin .neq (.t 10) (.c (.i 0))) none] [3, 11]) (.cond (.t 11) (.region 0 [.mk4 0 (some 12) (.mv (.t 3)) none,
    .mk4 1 (some 13) (.bin .or (.t 12) (.c (.i 4))) none,
    .mk4 2 (some 3) (.mv (.t 13)) none] [3]) (.skip))) (.seq (.region 0 [.mk4 0 (some 14) (.mv (.t 3)) none,
    .mk4 1 (some 2) (.mv (.t 14)) none] [2]) (.ret))
def c11_1 : AC :=
  .seq (.seq (.region 0 [.mk4 0 (some 4) (.mv (.t 0)) none,
    .mk4 1 (some 5) (.bin .and (.t 4) (.c (.i 2))) none,
    .mk4 2 (some 6) (.bin .neq (.t 5) (.c (.i 0))) none] [0, 3, 6]) (.cond (.t 6) (.region 0 [.mk4 0 (some 7) (.mv (.t 3)) none,
    .mk4 1 (some 8) (.bin .or (.t 7) (.c (.i 1))) none,
    .mk4 2 (some 3) (.mv (.t 8)) none] [0, 3]) (.skip))) (c11_0)
def c11 : AFn := ⟨1, 15, [.tmp 2],
  (.seq (.region 0 [.mk4 0 (some 2) (.mv (.c (.i 0))) none] [0]) (.seq (.region 0 [.mk4 0 (some 3) (.mv (.c (.i 0))) none] [0, 3]) (c11_1)))⟩
def c12_0 : AC :=
  .seq (.region 0 [.mk4 0 (some 27) (.mv (.t 2)) none,
    .mk4 1 (some 28) (.bin .eql (.t 27) (.c (.i 0))) none,
    .mk4 2 (some 29) (.mv (.t 28)) none,
    .mk4 3 (some 30) (.mv (.t 3)) (some (29, true)),
    .mk4 4 (some 31) (.bin .eql (.t 30) (.c (.i 0))) (some (29, true)),
    .mk4 5 (some 32) (.pick (.t 29) (.t 31) (.c (.bool false))) none,
    .mk4 6 (some 33) (.mv (.t 32)) none,
    .mk4 7 (some 34) (.mv (.t 4)) (some (33, true)),
    .mk4 8 (some 35) (.bin .eql (.t 34) (.c (.i 0))) (some (33, true)),
    .mk4 9 (some 36) (.pick (.t 33) (.t 35) (.c (.bool false))) none,
    .mk4 10 (some 37) (.mv (.t 36)) none,
    .mk4 11 (some 38) (.mv (.t 5)) (some (37, true)),
    .mk4 12 (some 39) (.bin .eql (.t 38) (.c (.i 0))) (some (37, true)),
    .mk4 13 (some 40) (.pick (.t 37) (.t 39) (.c (.bool false))) none,
    .mk4 14 (some 41) (.mv (.t 40)) none,
    .mk4 15 (some 42) (.mv (.t 6)) (some (41, true)),
    .mk4 16 (some 43) (.bin .eql (.t 42) (.c (.i 0))) (some (41, true)),
    .mk4 17 (some 44) (.pick (.t 41) (.t 43) (.c (.bool false))) none,
    .mk4 18 (some 45) (.mv (.t 44)) none,
    .mk4 19 (some 46) (.mv (.t 7)) (some (45, true)),
    .mk4 20 (some 47) (.bin .eql (.t 46) (.c (.i 0))) (some (45, true)),
    .mk4 21 (some 48) (.pick (.t 45) (.t 47) (.c (.bool false))) none,
    .mk4 22 (some 49) (.mv (.t 48)) none,
    .mk4 23 (some 50) (.mv (.t 8)) (some (49, true)),
    .mk4 24 (some 51) (.bin .eql (.t 50) (.c (.i 3))) (some (49, true)),
    .mk4 25 (some 52) (.pick (.t 49) (.t 51) (.c (.bool false))) none,
    .mk4 26 (some 53) (.mv (.t 52)) none,
    .mk4 27 (some 54) (.mv (.t 9)) (some (53, true)),
    .mk4 28 (some 55) (.lenL (.t 54)) (some (53, true)),
    .mk4 29 (some 56) (.bin .eql (.t 55) (.c (.i 2))) (some (53, true)),
    .mk4 30 (some 57) (.pick (.t 53) (.t 56) (.c (.bool false))) none,
    .mk4 31 (some 58) (.mv (.t 57)) none,
    .mk4 32 (some 59) (.mv (.t 9)) (some (58, true)),
    .mk4 33 (some 60) (.ixaS 2 (.t 59) (.c (.i 0))) (some (58, true)),
    .mk4 34 (some 61) (.loadN 2 (.t 60)) (some (58, true)),
    .mk4 35 (some 62) (.build [.i 0, .i 0] [(0, 1, (.c (.i 2))), (1, 1, (.c (.i 1)))]) (some (58, true)),
    .mk4 36 (some 63) (.eq (.agg [.int .i64, .int .i64]) false (.t 61) (.t 62)) (some (58, true)),
    .mk4 37 (some 64) (.pick (.t 58) (.t 63) (.c (.bool false))) none,
    .mk4 38 (some 65) (.mv (.t 64)) none,
    .mk4 39 (some 66) (.mv (.t 9)) (some (65, true)),
    .mk4 40 (some 67) (.ixaS 2 (.t 66) (.c (.i 1))) (some (65, true)),
    .mk4 41 (some 68) (.loadN 2 (.t 67)) (some (65, true)),
    .mk4 42 (some 69) (.build [.i 0, .i 0] [(0, 1, (.c (.i 9))), (1, 1, (.c (.i 2)))]) (some (65, true)),
    .mk4 43 (some 70) (.eq (.agg [.int .i64, .int .i64]) false (.t 68) (.t 69)) (some (65, true)),
    .mk4 44 (some 71) (.pick (.t 65) (.t 70) (.c (.bool false))) none,
    .mk4 45 (some 72) (.mv (.t 71)) none,
    .mk4 46 (some 73) (.mv (.t 1)) (some (72, true)),
    .mk4 47 (some 74) (.call 24 [(.t 73)]) (some (72, true)),
    .mk4 48 (some 75) (.bin .eql (.t 74) (.c (.i 0))) (some (72, true)),
    .mk4 49 (some 76) (.pick (.t 72) (.t 75) (.c (.bool false))) none,
    .mk4 50 (some 0) (.mv (.t 76)) none] [0]) (.ret)
def c12_1 : AC :=
  .seq (.region 0 [.mk4 0 (some 23) (.mv (.t 1)) none,
    .mk4 1 (some 24) (.call 24 [(.t 23)]) none,
    .mk4 2 (some 8) (.mv (.t 24)) none] [1, 2, 3, 4, 5, 6, 7, 8]) (.seq (.region 0 [.mk4 0 (some 25) (.mv (.t 1)) none,
    .mk4 1 (some 26) (.call 16 [(.t 25)]) none,
    .mk4 2 (some 9) (.mv (.t 26)) none] [1, 2, 3, 4, 5, 6, 7, 8, 9]) (c12_0))
def c12_2 : AC :=
  .seq (.region 0 [.mk4 0 (some 19) (.mv (.t 1)) none,
    .mk4 1 (some 20) (.call 15 [(.t 19), (.c (.i 9))]) none,
    .mk4 2 (some 6) (.mv (.t 20)) none] [1, 2, 3, 4, 5, 6]) (.seq (.region 0 [.mk4 0 (some 21) (.mv (.t 1)) none,
    .mk4 1 (some 22) (.call 15 [(.t 21), (.c (.i 5))]) none,
    .mk4 2 (some 7) (.mv (.t 22)) none] [1, 2, 3, 4, 5, 6, 7]) (c12_1))
def c12_3 : AC :=
  .seq (.region 0 [.mk4 0 (some 15) (.mv (.t 1)) none,
    .mk4 1 (some 16) (.call 15 [(.t 15), (.c (.i 9))]) none,
    .mk4 2 (some 4) (.mv (.t 16)) none] [1, 2, 3, 4]) (.seq (.region 0 [.mk4 0 (some 17) (.mv (.t 1)) none,
    .mk4 1 (some 18) (.call 15 [(.t 17), (.c (.i 2))]) none,
    .mk4 2 (some 5) (.mv (.t 18)) none] [1, 2, 3, 4, 5]) (c12_2))
def c12_4 : AC :=
  .seq (.region 0 [.mk4 0 (some 11) (.mv (.t 1)) none,
    .mk4 1 (some 12) (.call 14 [(.t 11), (.c (.i 2)), (.c (.bool true))]) none,
    .mk4 2 (some 2) (.mv (.t 12)) none] [1, 2]) (.seq (.region 0 [.mk4 0 (some 13) (.mv (.t 1)) none,
    .mk4 1 (some 14) (.call 14 [(.t 13), (.c (.i 9)), (.c (.bool true))]) none,
    .mk4 2 (some 3) (.mv (.t 14)) none] [1, 2, 3]) (c12_3))
def c12 : AFn := ⟨0, 77, [.tmp 0],
  (.seq (.region 0 [.mk4 0 (some 0) (.mv (.c (.bool false))) none] []) (.seq (.region 0 [.mk4 0 (some 10) (.call 13 []) none,
    .mk4 1 (some 1) (.mv (.t 10)) none] [1]) (c12_4)))⟩
def c13 : AFn := ⟨0, 3, [.tmp 0],
  (.seq (.region 0 [.mk4 0 (some 0) (.mv (.c (.ptr none))) none] []) (.seq (.region 0 [.mk4 0 (some 1) (.build (List.replicate 32 (.bool false : V) ++ List.replicate 32 (.i 0 : V)) []) none,
    .mk4 1 (some 2) (.box 64 (.t 1)) none,
    .mk4 2 (some 0) (.mv (.t 2)) none] [0]) (.ret)))⟩
def c14_0 : AC :=
  .cond (.t 21) (.region 0 [.mk4 0 (some 22) (.mv (.t 0)) none,
    .mk4 1 (some 23) (.mv (.t 1)) none,
    .mk4 2 (some 24) (.nilck (.t 22)) none,
    .mk4 3 (some 25) (.faddr 32 (.t 24)) none,
    .mk4 4 (some 26) (.ixaA 32 1 (.t 25) (.t 23)) none,
    .mk4 5 none (.store 1 (.t 26) (.c (.i 0))) none] []) (.skip)
def c14_1 : AC :=
  .seq (.seq (.region 0 [.mk4 0 (some 14) (.mv (.t 0)) none,
    .mk4 1 (some 15) (.mv (.t 1)) none,
    .mk4 2 (some 16) (.mv (.t 2)) none,
    .mk4 3 (some 17) (.nilck (.t 14)) none,
    .mk4 4 (some 18) (.faddr 0 (.t 17)) none,
    .mk4 5 (some 19) (.ixaA 32 1 (.t 18) (.t 15)) none,
    .mk4 6 none (.store 1 (.t 19) (.t 16)) none] [0, 1, 2]) (.seq (.region 0 [.mk4 0 (some 20) (.mv (.t 2)) none,
    .mk4 1 (some 21) (.un .not (.t 20)) none] [0, 1, 21]) (c14_0))) (.seq (.region 0 [.mk4 0 (some 6) (.mv (.c (.i 0))) none] [6]) (.ret))
def c14_2 : AC :=
  .seq (.seq (.region 0 [.mk4 0 (some 8) (.mv (.t 0)) none,
    .mk4 1 (some 9) (.mv (.t 1)) none,
    .mk4 2 (some 10) (.call 26 [(.t 8), (.t 9)]) none,
    .mk4 3 (some 7) (.mv (.t 10)) none] [0, 1, 2, 7]) (.seq (.region 0 [.mk4 0 (some 11) (.mv (.t 7)) none,
    .mk4 1 (some 12) (.bin .neq (.t 11) (.c (.i 0))) none] [0, 1, 2, 7, 12]) (.cond (.t 12) (.seq (.region 0 [.mk4 0 (some 13) (.mv (.t 7)) none,
    .mk4 1 (some 6) (.mv (.t 13)) none] [6]) (.ret)) (.skip)))) (c14_1)
def c14 : AFn := ⟨3, 27, [.tmp 6],
  (.seq (.region 0 [.mk4 0 (some 6) (.mv (.c (.i 0))) none] [0, 1, 2]) (c14_2))⟩
def c15_0 : AC :=
  .region 0 [.mk4 0 (some 18) (.mv (.t 0)) none,
    .mk4 1 (some 19) (.mv (.t 1)) none,
    .mk4 2 (some 20) (.nilck (.t 18)) none,
    .mk4 3 (some 21) (.faddr 32 (.t 20)) none,
    .mk4 4 (some 22) (.ixaA 32 1 (.t 21) (.t 19)) none,
    .mk4 5 (some 23) (.load1 (.t 22)) none,
    .mk4 6 (some 24) (.mv (.t 0)) none,
    .mk4 7 (some 25) (.mv (.t 1)) none,
    .mk4 8 (some 26) (.nilck (.t 24)) none,
    .mk4 9 (some 27) (.faddr 32 (.t 26)) none,
    .mk4 10 (some 28) (.ixaA 32 1 (.t 27) (.t 25)) none,
    .mk4 11 (some 29) (.load1 (.t 28)) none,
    .mk4 12 (some 30) (.bin .sub (.c (.i 2147483647)) (.t 29)) none,
    .mk4 13 (some 31) (.minI [(.c (.i 1)), (.t 30)]) none,
    .mk4 14 (some 32) (.bin .add (.t 23) (.t 31)) none,
    .mk4 15 (some 33) (.nilck (.t 18)) none,
    .mk4 16 (some 34) (.faddr 32 (.t 33)) none,
    .mk4 17 (some 35) (.ixaA 32 1 (.t 34) (.t 19)) none,
    .mk4 18 none (.store 1 (.t 35) (.t 32)) none] []
def c15_1 : AC :=
  .seq (.seq (.region 0 [.mk4 0 (some 12) (.mv (.t 0)) none,
    .mk4 1 (some 13) (.mv (.t 1)) none,
    .mk4 2 (some 14) (.nilck (.t 12)) none,
    .mk4 3 (some 15) (.faddr 0 (.t 14)) none,
    .mk4 4 (some 16) (.ixaA 32 1 (.t 15) (.t 13)) none,
    .mk4 5 (some 17) (.load1 (.t 16)) none] [0, 1, 17]) (.cond (.t 17) (c15_0) (.skip))) (.seq (.region 0 [.mk4 0 (some 4) (.mv (.c (.i 0))) none] [4]) (.ret))
def c15_2 : AC :=
  .seq (.seq (.region 0 [.mk4 0 (some 6) (.mv (.t 0)) none,
    .mk4 1 (some 7) (.mv (.t 1)) none,
    .mk4 2 (some 8) (.call 26 [(.t 6), (.t 7)]) none,
    .mk4 3 (some 5) (.mv (.t 8)) none] [0, 1, 5]) (.seq (.region 0 [.mk4 0 (some 9) (.mv (.t 5)) none,
    .mk4 1 (some 10) (.bin .neq (.t 9) (.c (.i 0))) none] [0, 1, 5, 10]) (.cond (.t 10) (.seq (.region 0 [.mk4 0 (some 11) (.mv (.t 5)) none,
    .mk4 1 (some 4) (.mv (.t 11)) none] [4]) (.ret)) (.skip)))) (c15_1)
def c15 : AFn := ⟨2, 36, [.tmp 4],
  (.seq (.region 0 [.mk4 0 (some 4) (.mv (.c (.i 0))) none] [0, 1]) (c15_2))⟩
def c16_0 : AC :=
  .region 0 [.mk4 0 (some 20) (.mv (.t 0)) none,
    .mk4 1 (some 21) (.faddr 0 (.t 6)) none,
    .mk4 2 (some 22) (.load1 (.t 21)) none,
    .mk4 3 (some 23) (.nilck (.t 20)) none,
    .mk4 4 (some 24) (.faddr 32 (.t 23)) none,
    .mk4 5 (some 25) (.ixaA 32 1 (.t 24) (.t 22)) none,
    .mk4 6 none (.store 1 (.t 25) (.c (.i 0))) none] [0, 3, 14, 15, 16]
def c16_1 : AC :=
  .seq (.block 3 (.seq (.region 0 [.mk4 0 (some 18) (.ixaS 2 (.t 14) (.t 16)) none,
    .mk4 1 (some 19) (.loadN 2 (.t 18)) none,
    .mk4 2 (some 6) (.alloc 2 [.i 0, .i 0]) none,
    .mk4 3 none (.store 2 (.t 6) (.t 19)) none] [0, 3, 6, 14, 15, 16]) (c16_0))) (.region 0 [.mk4 0 (some 26) (.bin .add (.t 16) (.c (.i 1))) none,
    .mk4 1 (some 16) (.mv (.t 26)) none] [0, 3, 14, 15, 16])
def c16_2 : AC :=
  .rangeFunc (.t 8) [9] [3] (.region 0 [.mk4 0 (some 4) (.alloc 2 [.i 0, .i 0]) none,
    .mk4 1 none (.store 2 (.t 4) (.t 9)) none] [3, 4]) (.block 1 (.region 0 [.mk4 0 (some 10) (.load1 (.t 3)) none,
    .mk4 1 (some 11) (.loadN 2 (.t 4)) none,
    .mk4 2 (some 12) (.bslice 2 1 [.i 0, .i 0] [(0, (.t 11))]) none,
    .mk4 3 (some 13) (.append 2 16 (.t 10) (.t 12)) none,
    .mk4 4 none (.store 1 (.t 3) (.t 13)) none] []))
def c16_3 : AC :=
  .seq (.seq (.region 0 [.mk4 0 (some 14) (.load1 (.t 3)) none,
    .mk4 1 (some 15) (.lenL (.t 14)) none,
    .mk4 2 (some 16) (.mv (.c (.i 0))) none] [0, 3, 14, 15, 16]) (.block 2 (.loop [0, 3, 14, 15, 16] (.seq (.region 0 [.mk4 0 (some 17) (.bin .lss (.t 16) (.t 15)) none] [0, 3, 14, 15, 16, 17]) (.seq (.cond (.t 17) (.skip) (.exit 2)) (c16_1)))))) (.seq (.region 0 [.mk4 0 (some 27) (.load1 (.t 3)) none,
    .mk4 1 (some 2) (.mv (.t 27)) none] [2]) (.ret))
def c16 : AFn := ⟨1, 28, [.tmp 2],
  (.seq (.region 0 [.mk4 0 (some 2) (.mv (.c (.nils))) none] [0]) (.seq (.region 0 [.mk4 0 (some 3) (.alloc 1 [.nils]) none] [0, 3]) (.seq (.seq (.region 0 [.mk4 0 (some 7) (.mv (.t 0)) none,
    .mk4 1 (some 8) (.call 27 [(.t 7)]) none] [0, 3, 8]) (.block 0 (c16_2))) (c16_3))))⟩
def c17_0 : AC :=
  .seq (.region 0 [.mk4 0 (some 9) (.mv (.t 0)) none,
    .mk4 1 (some 10) (.mv (.t 1)) none,
    .mk4 2 (some 11) (.nilck (.t 9)) none,
    .mk4 3 (some 12) (.faddr 32 (.t 11)) none,
    .mk4 4 (some 13) (.ixaA 32 1 (.t 12) (.t 10)) none,
    .mk4 5 (some 14) (.load1 (.t 13)) none,
    .mk4 6 (some 4) (.mv (.t 14)) none] [4]) (.ret)
def c17_1 : AC :=
  .seq (.seq (.region 0 [.mk4 0 (some 5) (.mv (.t 0)) none,
    .mk4 1 (some 6) (.mv (.t 1)) none,
    .mk4 2 (some 7) (.call 26 [(.t 5), (.t 6)]) none,
    .mk4 3 (some 8) (.bin .neq (.t 7) (.c (.i 0))) none] [0, 1, 8]) (.cond (.t 8) (.seq (.region 0 [.mk4 0 (some 4) (.mv (.c (.i 0))) none] [4]) (.ret)) (.skip))) (c17_0)
def c17 : AFn := ⟨2, 15, [.tmp 4],
  (.seq (.region 0 [.mk4 0 (some 4) (.mv (.c (.i 0))) none] [0, 1]) (c17_1))⟩
def c18_0 : AC :=
  .seq (.region 0 [.mk4 0 (some 5) (.mv (.t 0)) none,
    .mk4 1 (some 6) (.mv (.t 1)) none,
    .mk4 2 (some 7) (.call 26 [(.t 5), (.t 6)]) none,
    .mk4 3 (some 8) (.bin .eql (.t 7) (.c (.i 0))) none,
    .mk4 4 (some 9) (.mv (.t 8)) none,
    .mk4 5 (some 10) (.mv (.t 0)) (some (9, true)),
    .mk4 6 (some 11) (.mv (.t 1)) (some (9, true)),
    .mk4 7 (some 12) (.nilck (.t 10)) (some (9, true)),
    .mk4 8 (some 13) (.faddr 0 (.t 12)) (some (9, true)),
    .mk4 9 (some 14) (.ixaA 32 1 (.t 13) (.t 11)) (some (9, true)),
    .mk4 10 (some 15) (.load1 (.t 14)) (some (9, true)),
    .mk4 11 (some 16) (.pick (.t 9) (.t 15) (.c (.bool false))) none,
    .mk4 12 (some 4) (.mv (.t 16)) none] [4]) (.ret)
def c18 : AFn := ⟨2, 17, [.tmp 4],
  (.seq (.region 0 [.mk4 0 (some 4) (.mv (.c (.bool false))) none] [0, 1]) (c18_0))⟩
def c19_0 : AC :=
  .region 0 [.mk4 0 (some 23) (.mv (.t 0)) none,
    .mk4 1 (some 24) (.mv (.t 0)) none,
    .mk4 2 (some 25) (.nilck (.t 24)) none,
    .mk4 3 (some 26) (.faddr 0 (.t 25)) none,
    .mk4 4 (some 27) (.load1 (.t 26)) none,
    .mk4 5 (some 28) (.mv (.t 1)) none,
    .mk4 6 (some 29) (.bslice 1 1 [.i 0] [(0, (.t 28))]) none,
    .mk4 7 (some 30) (.append 1 8 (.t 27) (.t 29)) none,
    .mk4 8 (some 31) (.nilck (.t 23)) none,
    .mk4 9 (some 32) (.faddr 0 (.t 31)) none,
    .mk4 10 none (.store 1 (.t 32) (.t 30)) none] []
def c19_1 : AC :=
  .region 0 [.mk4 0 (some 33) (.mv (.t 0)) none,
    .mk4 1 (some 34) (.mv (.t 0)) none,
    .mk4 2 (some 35) (.nilck (.t 34)) none,
    .mk4 3 (some 36) (.faddr 1 (.t 35)) none,
    .mk4 4 (some 37) (.load1 (.t 36)) none,
    .mk4 5 (some 38) (.mv (.t 1)) none,
    .mk4 6 (some 39) (.call 28 [(.t 37), (.t 38)]) none,
    .mk4 7 (some 40) (.nilck (.t 33)) none,
    .mk4 8 (some 41) (.faddr 1 (.t 40)) none,
    .mk4 9 none (.store 1 (.t 41) (.t 39)) none] []
def c19_2 : AC :=
  .seq (.region 0 [.mk4 0 (some 13) (.mv (.t 0)) none,
    .mk4 1 (some 14) (.mv (.t 0)) none,
    .mk4 2 (some 15) (.nilck (.t 14)) none,
    .mk4 3 (some 16) (.faddr 0 (.t 15)) none,
    .mk4 4 (some 17) (.load1 (.t 16)) none,
    .mk4 5 (some 18) (.mv (.t 1)) none,
    .mk4 6 (some 19) (.call 28 [(.t 17), (.t 18)]) none,
    .mk4 7 (some 20) (.nilck (.t 13)) none,
    .mk4 8 (some 21) (.faddr 0 (.t 20)) none,
    .mk4 9 none (.store 1 (.t 21) (.t 19)) none] [0, 1, 2]) (.seq (.seq (.region 0 [.mk4 0 (some 22) (.mv (.t 2)) none] [0, 1, 22]) (.cond (.t 22) (c19_0) (c19_1))) (.seq (.region 0 [.mk4 0 (some 6) (.mv (.c (.i 0))) none] [6]) (.ret)))
def c19_3 : AC :=
  .seq (.seq (.region 0 [.mk4 0 (some 7) (.mv (.t 1)) none,
    .mk4 1 (some 8) (.bin .lss (.t 7) (.c (.i 1))) none,
    .mk4 2 (some 9) (.mv (.t 8)) none,
    .mk4 3 (some 10) (.mv (.t 1)) (some (9, false)),
    .mk4 4 (some 11) (.bin .gtr (.t 10) (.c (.i 31))) (some (9, false)),
    .mk4 5 (some 12) (.pick (.t 9) (.c (.bool true)) (.t 11)) none] [0, 1, 2, 12]) (.cond (.t 12) (.seq (.region 0 [.mk4 0 (some 6) (.mv (.c (.i 100))) none] [6]) (.ret)) (.skip))) (c19_2)
def c19 : AFn := ⟨3, 42, [.tmp 6],
  (.seq (.region 0 [.mk4 0 (some 6) (.mv (.c (.i 0))) none] [0, 1, 2]) (c19_3))⟩
def c20_0 : AC :=
  .region 0 [.mk4 0 (some 18) (.mv (.t 0)) none,
    .mk4 1 (some 19) (.mv (.t 0)) none,
    .mk4 2 (some 20) (.nilck (.t 19)) none,
    .mk4 3 (some 21) (.faddr 1 (.t 20)) none,
    .mk4 4 (some 22) (.load1 (.t 21)) none,
    .mk4 5 (some 23) (.mv (.t 1)) none,
    .mk4 6 (some 24) (.bslice 1 1 [.i 0] [(0, (.t 23))]) none,
    .mk4 7 (some 25) (.append 1 8 (.t 22) (.t 24)) none,
    .mk4 8 (some 26) (.nilck (.t 18)) none,
    .mk4 9 (some 27) (.faddr 1 (.t 26)) none,
    .mk4 10 none (.store 1 (.t 27) (.t 25)) none] []
def c20_1 : AC :=
  .seq (.seq (.region 0 [.mk4 0 (some 11) (.mv (.t 0)) none,
    .mk4 1 (some 12) (.nilck (.t 11)) none,
    .mk4 2 (some 13) (.faddr 0 (.t 12)) none,
    .mk4 3 (some 14) (.load1 (.t 13)) none,
    .mk4 4 (some 15) (.mv (.t 1)) none,
    .mk4 5 (some 16) (.call 21 [(.t 14), (.t 15)]) none,
    .mk4 6 (some 17) (.bin .gtr (.t 16) (.c (.i 0))) none] [0, 1, 17]) (.cond (.t 17) (c20_0) (.skip))) (.seq (.region 0 [.mk4 0 (some 4) (.mv (.c (.i 0))) none] [4]) (.ret))
def c20_2 : AC :=
  .seq (.seq (.region 0 [.mk4 0 (some 5) (.mv (.t 1)) none,
    .mk4 1 (some 6) (.bin .lss (.t 5) (.c (.i 1))) none,
    .mk4 2 (some 7) (.mv (.t 6)) none,
    .mk4 3 (some 8) (.mv (.t 1)) (some (7, false)),
    .mk4 4 (some 9) (.bin .gtr (.t 8) (.c (.i 31))) (some (7, false)),
    .mk4 5 (some 10) (.pick (.t 7) (.c (.bool true)) (.t 9)) none] [0, 1, 10]) (.cond (.t 10) (.seq (.region 0 [.mk4 0 (some 4) (.mv (.c (.i 100))) none] [4]) (.ret)) (.skip))) (c20_1)
def c20 : AFn := ⟨2, 28, [.tmp 4],
  (.seq (.region 0 [.mk4 0 (some 4) (.mv (.c (.i 0))) none] [0, 1]) (c20_2))⟩
def c21_0 : AC :=
  .seq (.region 0 [.mk4 0 (some 13) (.mv (.t 0)) none,
    .mk4 1 (some 14) (.mv (.t 6)) none,
    .mk4 2 (some 15) (.ixaS 1 (.t 13) (.t 14)) none,
    .mk4 3 (some 16) (.load1 (.t 15)) none,
    .mk4 4 (some 17) (.mv (.t 1)) none,
    .mk4 5 (some 18) (.bin .eql (.t 16) (.t 17)) none] [0, 1, 5, 6, 18]) (.cond (.t 18) (.region 0 [.mk4 0 (some 19) (.mv (.t 5)) none,
    .mk4 1 (some 20) (.bin .add (.t 19) (.c (.i 1))) none,
    .mk4 2 (some 5) (.mv (.t 20)) none] [0, 1, 5, 6]) (.skip))
def c21_1 : AC :=
  .seq (.seq (.region 0 [.mk4 0 (some 7) (.mv (.t 6)) none,
    .mk4 1 (some 8) (.mv (.t 0)) none,
    .mk4 2 (some 9) (.lenL (.t 8)) none,
    .mk4 3 (some 10) (.bin .lss (.t 7) (.t 9)) none] [0, 1, 5, 6, 10]) (.cond (.t 10) (.skip) (.exit 0))) (.seq (.block 1 (c21_0)) (.region 0 [.mk4 0 (some 11) (.mv (.t 6)) none,
    .mk4 1 (some 12) (.bin .add (.t 11) (.c (.i 1))) none,
    .mk4 2 (some 6) (.mv (.t 12)) none] [0, 1, 5, 6]))
def c21_2 : AC :=
  .seq (.region 0 [.mk4 0 (some 4) (.mv (.c (.i 0))) none] [0, 1]) (.seq (.region 0 [.mk4 0 (some 5) (.mv (.c (.i 0))) none] [0, 1, 5]) (.seq (.seq (.region 0 [.mk4 0 (some 6) (.mv (.c (.i 0))) none] [0, 1, 5, 6]) (.block 0 (.loop [0, 1, 5, 6] (c21_1)))) (.seq (.region 0 [.mk4 0 (some 21) (.mv (.t 5)) none,
    .mk4 1 (some 4) (.mv (.t 21)) none] [4]) (.ret))))
def c21 : AFn := ⟨2, 22, [.tmp 4],
  (c21_2)⟩
def c22_0 : AC :=
  .seq (.region 0 [.mk4 0 (some 6) (.mv (.t 0)) none,
    .mk4 1 (some 7) (.nilck (.t 6)) none,
    .mk4 2 (some 8) (.loadN 64 (.t 7)) none,
    .mk4 3 (some 3) (.alloc 64 (List.replicate 32 (.bool false : V) ++ List.replicate 32 (.i 0 : V))) none,
    .mk4 4 none (.store 64 (.t 3) (.t 8)) none] [3]) (.seq (.region 0 [.mk4 0 (some 2) (.mv (.t 3)) none] [2]) (.ret))
def c22_1 : AC :=
  .seq (.region 0 [.mk4 0 (some 2) (.mv (.c (.ptr none))) none] [0]) (.seq (.seq (.region 0 [.mk4 0 (some 4) (.mv (.t 0)) none,
    .mk4 1 (some 5) (.eq .ptr false (.t 4) (.c (.ptr none))) none] [0, 5]) (.cond (.t 5) (.seq (.region 0 [.mk4 0 (some 2) (.mv (.c (.ptr none))) none] [2]) (.ret)) (.skip))) (c22_0))
def c22 : AFn := ⟨1, 9, [.tmp 2],
  (c22_1)⟩
def c23_0 : AC :=
  .seq (.region 0 [.mk4 0 (some 8) (.mv (.t 0)) none,
    .mk4 1 (some 9) (.mv (.t 4)) none,
    .mk4 2 (some 10) (.call 18 [(.t 8), (.t 9)]) none] [0, 3, 4, 5, 10]) (.cond (.t 10) (.region 0 [.mk4 0 (some 11) (.mv (.t 3)) none,
    .mk4 1 (some 12) (.mv (.t 4)) none,
    .mk4 2 (some 13) (.bslice 1 1 [.i 0] [(0, (.t 12))]) none,
    .mk4 3 (some 14) (.append 1 8 (.t 11) (.t 13)) none,
    .mk4 4 (some 3) (.mv (.t 14)) none] [0, 3, 5]) (.skip))
def c23_1 : AC :=
  .seq (.region 0 [.mk4 0 (some 6) (.bin .lss (.t 5) (.c (.i 32))) none] [0, 3, 5, 6]) (.seq (.cond (.t 6) (.skip) (.exit 0)) (.seq (.block 1 (.seq (.region 0 [.mk4 0 (some 7) (.mv (.t 5)) none,
    .mk4 1 (some 4) (.mv (.t 7)) none] [0, 3, 4, 5]) (c23_0))) (.region 0 [.mk4 0 (some 15) (.bin .add (.t 5) (.c (.i 1))) none,
    .mk4 1 (some 5) (.mv (.t 15)) none] [0, 3, 5])))
def c23_2 : AC :=
  .seq (.region 0 [.mk4 0 (some 2) (.mv (.c (.nils))) none] [0]) (.seq (.region 0 [.mk4 0 (some 3) (.mv (.c (.nils))) none] [0, 3]) (.seq (.seq (.region 0 [.mk4 0 (some 5) (.mv (.c (.i 0))) none] [0, 3, 5]) (.block 0 (.loop [0, 3, 5] (c23_1)))) (.seq (.region 0 [.mk4 0 (some 16) (.mv (.t 3)) none,
    .mk4 1 (some 2) (.mv (.t 16)) none] [2]) (.ret))))
def c23 : AFn := ⟨1, 17, [.tmp 2],
  (c23_2)⟩
def c24_0 : AC :=
  .rangeFunc (.t 6) [7] [3] (.region 0 [.mk4 0 (some 4) (.alloc 2 [.i 0, .i 0]) none,
    .mk4 1 none (.store 2 (.t 4) (.t 7)) none] [3, 4]) (.block 1 (.region 0 [.mk4 0 (some 8) (.load1 (.t 3)) none,
    .mk4 1 (some 9) (.faddr 1 (.t 4)) none,
    .mk4 2 (some 10) (.load1 (.t 9)) none,
    .mk4 3 (some 11) (.bin .add (.t 8) (.t 10)) none,
    .mk4 4 none (.store 1 (.t 3) (.t 11)) none] []))
def c24_1 : AC :=
  .seq (.region 0 [.mk4 0 (some 3) (.alloc 1 [.i 0]) none,
    .mk4 1 none (.store 1 (.t 3) (.c (.i 0))) none] [0, 3]) (.seq (.seq (.region 0 [.mk4 0 (some 5) (.mv (.t 0)) none,
    .mk4 1 (some 6) (.call 27 [(.t 5)]) none] [3, 6]) (.block 0 (c24_0))) (.seq (.region 0 [.mk4 0 (some 12) (.load1 (.t 3)) none,
    .mk4 1 (some 2) (.mv (.t 12)) none] [2]) (.ret)))
def c24 : AFn := ⟨1, 13, [.tmp 2],
  (.seq (.region 0 [.mk4 0 (some 2) (.mv (.c (.i 0))) none] [0]) (c24_1))⟩
def c25_0 : AC :=
  .seq (.region 0 [.mk4 0 (some 5) (.mv (.t 0)) none,
    .mk4 1 (some 6) (.mv (.t 1)) none,
    .mk4 2 (some 7) (.bin .quo (.t 5) (.t 6)) none,
    .mk4 3 (some 8) (.bin .rem (.t 7) (.c (.i 2))) none,
    .mk4 4 (some 9) (.bin .eql (.t 8) (.c (.i 1))) none,
    .mk4 5 (some 4) (.mv (.t 9)) none] [4]) (.ret)
def c25 : AFn := ⟨2, 10, [.tmp 4],
  (.seq (.region 0 [.mk4 0 (some 4) (.mv (.c (.bool false))) none] [0, 1]) (c25_0))⟩
def c26_0 : AC :=
  .cond (.t 5) (.seq (.region 0 [.mk4 0 (some 4) (.mv (.c (.i 1))) none] [4]) (.ret)) (.seq (.region 0 [.mk4 0 (some 9) (.mv (.t 1)) none,
    .mk4 1 (some 10) (.call 29 [(.t 9)]) none,
    .mk4 2 (some 11) (.un .not (.t 10)) none,
    .mk4 3 (some 8) (.mv (.t 11)) none] [8]) (.cond (.t 8) (.seq (.region 0 [.mk4 0 (some 4) (.mv (.c (.i 100))) none] [4]) (.ret)) (.skip)))
def c26_1 : AC :=
  .seq (.region 0 [.mk4 0 (some 4) (.mv (.c (.i 0))) none] [0, 1]) (.seq (.block 0 (.seq (.region 0 [.mk4 0 (some 6) (.mv (.t 0)) none,
    .mk4 1 (some 7) (.eq .ptr false (.t 6) (.c (.ptr none))) none,
    .mk4 2 (some 5) (.mv (.t 7)) none] [1, 5]) (c26_0))) (.seq (.region 0 [.mk4 0 (some 4) (.mv (.c (.i 0))) none] [4]) (.ret)))
def c26 : AFn := ⟨2, 12, [.tmp 4],
  (c26_1)⟩
def c27 : AFn := ⟨1, 4, [.tmp 2],
  (.seq (.region 0 [.mk4 0 (some 1) (.box 1 (.t 0)) none,
    .mk4 1 (some 2) (.mv (.c (.nilfn))) none] [1]) (.seq (.region 0 [.mk4 0 (some 3) (.mkClo 30 [(.t 1)]) none,
    .mk4 1 (some 2) (.mv (.t 3)) none] [2]) (.ret)))⟩
def c28_0 : AC :=
  .region 0 [.mk4 0 (some 19) (.mv (.t 5)) none,
    .mk4 1 (some 20) (.mv (.t 0)) none,
    .mk4 2 (some 21) (.mv (.t 6)) none,
    .mk4 3 (some 22) (.ixaS 1 (.t 20) (.t 21)) none,
    .mk4 4 (some 23) (.load1 (.t 22)) none,
    .mk4 5 (some 24) (.bslice 1 1 [.i 0] [(0, (.t 23))]) none,
    .mk4 6 (some 25) (.append 1 8 (.t 19) (.t 24)) none,
    .mk4 7 (some 5) (.mv (.t 25)) none] [0, 1, 5, 6]
def c28_1 : AC :=
  .seq (.region 0 [.mk4 0 (some 13) (.mv (.t 0)) none,
    .mk4 1 (some 14) (.mv (.t 6)) none,
    .mk4 2 (some 15) (.ixaS 1 (.t 13) (.t 14)) none,
    .mk4 3 (some 16) (.load1 (.t 15)) none,
    .mk4 4 (some 17) (.mv (.t 1)) none,
    .mk4 5 (some 18) (.bin .neq (.t 16) (.t 17)) none] [0, 1, 5, 6, 18]) (.cond (.t 18) (c28_0) (.skip))
def c28_2 : AC :=
  .seq (.seq (.region 0 [.mk4 0 (some 7) (.mv (.t 6)) none,
    .mk4 1 (some 8) (.mv (.t 0)) none,
    .mk4 2 (some 9) (.lenL (.t 8)) none,
    .mk4 3 (some 10) (.bin .lss (.t 7) (.t 9)) none] [0, 1, 5, 6, 10]) (.cond (.t 10) (.skip) (.exit 0))) (.seq (.block 1 (c28_1)) (.region 0 [.mk4 0 (some 11) (.mv (.t 6)) none,
    .mk4 1 (some 12) (.bin .add (.t 11) (.c (.i 1))) none,
    .mk4 2 (some 6) (.mv (.t 12)) none] [0, 1, 5, 6]))
def c28_3 : AC :=
  .seq (.region 0 [.mk4 0 (some 4) (.mv (.c (.nils))) none] [0, 1]) (.seq (.region 0 [.mk4 0 (some 5) (.mv (.c (.nils))) none] [0, 1, 5]) (.seq (.seq (.region 0 [.mk4 0 (some 6) (.mv (.c (.i 0))) none] [0, 1, 5, 6]) (.block 0 (.loop [0, 1, 5, 6] (c28_2)))) (.seq (.region 0 [.mk4 0 (some 26) (.mv (.t 5)) none,
    .mk4 1 (some 4) (.mv (.t 26)) none] [4]) (.ret))))
def c28 : AFn := ⟨2, 27, [.tmp 4],
  (c28_3)⟩
def c29_0 : AC :=
  .seq (.region 0 [.mk4 0 (some 3) (.mv (.t 0)) none,
    .mk4 1 (some 4) (.bin .geq (.t 3) (.c (.i 1))) none,
    .mk4 2 (some 5) (.mv (.t 4)) none,
    .mk4 3 (some 6) (.mv (.t 0)) (some (5, true)),
    .mk4 4 (some 7) (.bin .leq (.t 6) (.c (.i 31))) (some (5, true)),
    .mk4 5 (some 8) (.pick (.t 5) (.t 7) (.c (.bool false))) none,
    .mk4 6 (some 2) (.mv (.t 8)) none] [2]) (.ret)
def c29 : AFn := ⟨1, 9, [.tmp 2],
  (.seq (.region 0 [.mk4 0 (some 2) (.mv (.c (.bool false))) none] [0]) (c29_0))⟩
def c30_0 : AC :=
  .seq (.region 0 [.mk4 0 (some 13) (.mv (.t 0)) none,
    .mk4 1 (some 14) (.mv (.t 3)) none,
    .mk4 2 (some 15) (.mv (.t 4)) none,
    .mk4 3 (some 16) (.build [.i 0, .i 0] [(0, 1, (.t 14)), (1, 1, (.t 15))]) none,
    .mk4 4 (some 17) (.callv (.t 13) [(.t 16)]) none,
    .mk4 5 (some 18) (.un .not (.t 17)) none] [0, 1, 5, 18]) (.cond (.t 18) (.ret) (.skip))
def c30_1 : AC :=
  .seq (.region 0 [.mk4 0 (some 8) (.load1 (.t 1)) none,
    .mk4 1 (some 9) (.mv (.t 3)) none,
    .mk4 2 (some 10) (.call 17 [(.t 8), (.t 9)]) none,
    .mk4 3 (some 4) (.mv (.t 10)) none] [0, 1, 3, 4, 5]) (.seq (.seq (.region 0 [.mk4 0 (some 11) (.mv (.t 4)) none,
    .mk4 1 (some 12) (.bin .eql (.t 11) (.c (.i 0))) none] [0, 1, 3, 4, 5, 12]) (.cond (.t 12) (.exit 1) (.skip))) (c30_0))
def c30_2 : AC :=
  .seq (.region 0 [.mk4 0 (some 6) (.bin .lss (.t 5) (.c (.i 32))) none] [0, 1, 5, 6]) (.seq (.cond (.t 6) (.skip) (.exit 0)) (.seq (.block 1 (.seq (.region 0 [.mk4 0 (some 7) (.mv (.t 5)) none,
    .mk4 1 (some 3) (.mv (.t 7)) none] [0, 1, 3, 5]) (c30_1))) (.region 0 [.mk4 0 (some 19) (.bin .add (.t 5) (.c (.i 1))) none,
    .mk4 1 (some 5) (.mv (.t 19)) none] [0, 1, 5])))
def c30 : AFn := ⟨2, 20, [],
  (.scope (.seq (.label 0) (.seq (.region 0 [.mk4 0 (some 5) (.mv (.c (.i 0))) none] [0, 1, 5]) (.block 0 (.loop [0, 1, 5] (c30_2))))))⟩
def prog : Prog := { fns := [(3, c3), (4, c4), (5, c5), (6, c6), (8, c8), (9, c9), (10, c10), (11, c11), (12, c12), (13, c13), (14, c14), (15, c15), (16, c16), (17, c17), (18, c18), (19, c19), (20, c20), (21, c21), (22, c22), (23, c23), (24, c24), (25, c25), (26, c26), (27, c27), (28, c28), (29, c29), (30, c30)], prims := [] }
def cx : Cx := ⟨[(3, ⟨.int .i64, 1, 8, (some (.i 0)), false⟩),
  (4, ⟨.bool, 1, 1, (some (.bool false)), false⟩),
  (5, ⟨.int .u8, 1, 1, (some (.int .u8 0)), false⟩),
  (22, ⟨.int .i64, 1, 8, (some (.i 0)), false⟩),
  (29, ⟨.slice 36, 1, 24, (some (.nils)), false⟩),
  (31, ⟨.ptr 54, 1, 8, (some (.ptr none)), false⟩),
  (36, ⟨.struct [(0, 3), (1, 3)], 2, 16, (some (.agg [.i 0, .i 0])), false⟩),
  (37, ⟨.slice 40, 1, 24, (some (.nils)), false⟩),
  (40, ⟨.struct [(0, 3), (1, 3)], 2, 16, (some (.agg [.i 0, .i 0])), true⟩),
  (43, ⟨.slice 3, 1, 24, (some (.nils)), false⟩),
  (45, ⟨.struct [(0, 43), (1, 43)], 2, 48, (some (.agg [.nils, .nils])), false⟩),
  (51, ⟨.array 32 4, 32, 32, (some (.agg (List.replicate 32 (.bool false)))), false⟩),
  (52, ⟨.array 32 3, 32, 256, (some (.agg (List.replicate 32 (.i 0)))), false⟩),
  (54, ⟨.struct [(0, 51), (32, 52)], 64, 288, (some (.agg (List.replicate 32 (.bool false : V) ++ List.replicate 32 (.i 0 : V)))), false⟩)], []⟩
namespace F
abbrev roundhouselaw14_PolFlags : Nat := 3
abbrev roundhouselaw10_SigsOnce : Nat := 4
abbrev roundhouselaw10_SigsApart : Nat := 5
abbrev roundhouselaw10_SigsPlay : Nat := 6
abbrev roundhouselaw10_SigsCopies : Nat := 8
abbrev pol_Flags : Nat := 9
abbrev roundhouseref14_Flags : Nat := 10
abbrev pol_Wants : Nat := 11
abbrev roundhouselaw10_alive : Nat := 12
abbrev sigs_New : Nat := 13
abbrev sigs_Sigs_Handle : Nat := 14
abbrev sigs_Sigs_Raise : Nat := 15
abbrev sigs_Sigs_Take : Nat := 16
abbrev sigs_Sigs_Count : Nat := 17
abbrev sigs_Sigs_Handled : Nat := 18
abbrev roundhouseref10_Table_Handle : Nat := 19
abbrev roundhouseref10_Table_Raise : Nat := 20
abbrev roundhouseref10_Count : Nat := 21
abbrev sigs_Sigs_Copy : Nat := 22
abbrev sigs_Sigs_List : Nat := 23
abbrev sigs_Sigs_Pending : Nat := 24
abbrev roundhouseref14_bit : Nat := 25
abbrev sigs_Sigs_may : Nat := 26
abbrev sigs_Sigs_counts : Nat := 27
abbrev roundhouseref10_without : Nat := 28
abbrev sigs_is : Nat := 29
abbrev sigs_Sigs_counts_1 : Nat := 30
end F
end Am.Sigs
