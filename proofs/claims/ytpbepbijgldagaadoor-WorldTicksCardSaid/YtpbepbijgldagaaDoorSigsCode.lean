/- The code of roundhouselaw11.WorldTicks and of all that they reach, as the abstract machine takes it: printed by a program. -/
import Derived.Test.YtpbepbijgldagaaDoorMatch
set_option maxRecDepth 100000
namespace Am.Sigs
open Am Go
def c4_0 : AC :=
  .seq (.region 0 [.mk4 0 (some 33) (.mv (.t 7)) none,
    .mk4 1 (some 34) (.mv (.t 6)) none,
    .mk4 2 (some 35) (.bin .lss (.t 33) (.t 34)) none,
    .mk4 3 (some 36) (.mv (.t 35)) none,
    .mk4 4 (some 37) (.mv (.t 7)) (some (36, false)),
    .mk4 5 (some 38) (.mv (.t 6)) (some (36, false)),
    .mk4 6 (some 39) (.bin .sub (.t 37) (.t 38)) (some (36, false)),
    .mk4 7 (some 40) (.mv (.t 0)) (some (36, false)),
    .mk4 8 (some 41) (.mv (.t 5)) (some (36, false)),
    .mk4 9 (some 42) (.ixaS 1 (.t 40) (.t 41)) (some (36, false)),
    .mk4 10 (some 43) (.load1 (.t 42)) (some (36, false)),
    .mk4 11 (some 44) (.bin .neq (.t 39) (.t 43)) (some (36, false)),
    .mk4 12 (some 45) (.mv (.t 44)) (some (36, false)),
    .mk4 13 (some 46) (.mv (.t 7)) (some (45, true)),
    .mk4 14 (some 47) (.bin .neq (.t 46) (.c (.int .u64 18446744073709551615))) (some (45, true)),
    .mk4 15 (some 48) (.pick (.t 45) (.t 47) (.c (.bool false))) (some (36, false)),
    .mk4 16 (some 49) (.pick (.t 36) (.c (.bool true)) (.t 48)) none] [0, 3, 4, 19, 20, 49]) (.cond (.t 49) (.seq (.region 0 [.mk4 0 (some 2) (.mv (.c (.bool false))) none] [2]) (.ret)) (.skip))
def c4_1 : AC :=
  .seq (.region 0 [.mk4 0 (some 25) (.mv (.t 4)) none,
    .mk4 1 (some 26) (.mv (.t 0)) none,
    .mk4 2 (some 27) (.mv (.t 5)) none,
    .mk4 3 (some 28) (.ixaS 1 (.t 26) (.t 27)) none,
    .mk4 4 (some 29) (.load1 (.t 28)) none,
    .mk4 5 (some 30) (.call 15 [(.t 25), (.t 29)]) none] [0, 3, 4, 5, 6, 19, 20]) (.seq (.region 0 [.mk4 0 (some 31) (.mv (.t 4)) none,
    .mk4 1 (some 32) (.call 14 [(.t 31)]) none,
    .mk4 2 (some 7) (.mv (.t 32)) none] [0, 3, 4, 5, 6, 7, 19, 20]) (c4_0))
def c4_2 : AC :=
  .seq (.block 1 (.seq (.region 0 [.mk4 0 (some 22) (.mv (.t 20)) none,
    .mk4 1 (some 5) (.mv (.t 22)) none] [0, 3, 4, 5, 19, 20]) (.seq (.region 0 [.mk4 0 (some 23) (.mv (.t 4)) none,
    .mk4 1 (some 24) (.call 14 [(.t 23)]) none,
    .mk4 2 (some 6) (.mv (.t 24)) none] [0, 3, 4, 5, 6, 19, 20]) (c4_1)))) (.region 0 [.mk4 0 (some 50) (.bin .add (.t 20) (.c (.i 1))) none,
    .mk4 1 (some 20) (.mv (.t 50)) none] [0, 3, 4, 19, 20])
def c4_3 : AC :=
  .seq (.region 0 [.mk4 0 (some 51) (.mv (.t 3)) none,
    .mk4 1 (some 52) (.mv (.t 51)) none,
    .mk4 2 (some 53) (.call 5 []) (some (52, true)),
    .mk4 3 (some 54) (.call 17 [(.t 53)]) (some (52, true)),
    .mk4 4 (some 55) (.bslice 1 1 [.str []] [(0, (.c (.str [110, 111, 119, 32, 48])))]) (some (52, true)),
    .mk4 5 (some 56) (.call 16 [(.t 54), (.t 55)]) (some (52, true)),
    .mk4 6 (some 57) (.pick (.t 52) (.t 56) (.c (.bool false))) none,
    .mk4 7 (some 2) (.mv (.t 57)) none] [2]) (.ret)
def c4_4 : AC :=
  .seq (.seq (.region 0 [.mk4 0 (some 18) (.mv (.t 0)) none,
    .mk4 1 (some 19) (.lenL (.t 18)) none,
    .mk4 2 (some 20) (.mv (.c (.i 0))) none] [0, 3, 4, 19, 20]) (.block 0 (.loop [0, 3, 4, 19, 20] (.seq (.region 0 [.mk4 0 (some 21) (.bin .lss (.t 20) (.t 19)) none] [0, 3, 4, 19, 20, 21]) (.seq (.cond (.t 21) (.skip) (.exit 0)) (c4_2)))))) (c4_3)
def c4_5 : AC :=
  .seq (.seq (.region 0 [.mk4 0 (some 9) (.mv (.t 0)) none,
    .mk4 1 (some 10) (.lenL (.t 9)) none,
    .mk4 2 (some 11) (.bin .gtr (.t 10) (.c (.i 100))) none,
    .mk4 3 (some 12) (.mv (.t 11)) none,
    .mk4 4 (some 13) (.mv (.t 3)) (some (12, false)),
    .mk4 5 (some 14) (.un .not (.t 13)) (some (12, false)),
    .mk4 6 (some 15) (.pick (.t 12) (.c (.bool true)) (.t 14)) none] [0, 3, 15]) (.cond (.t 15) (.seq (.region 0 [.mk4 0 (some 16) (.mv (.t 3)) none,
    .mk4 1 (some 2) (.mv (.t 16)) none] [2]) (.ret)) (.skip))) (.seq (.region 0 [.mk4 0 (some 17) (.call 5 []) none,
    .mk4 1 (some 4) (.mv (.t 17)) none] [0, 3, 4]) (c4_4))
def c4 : AFn := ⟨1, 58, [.tmp 2],
  (.seq (.region 0 [.mk4 0 (some 2) (.mv (.c (.bool false))) none] [0]) (.seq (.region 0 [.mk4 0 (some 8) (.call 13 []) none,
    .mk4 1 (some 3) (.mv (.t 8)) none] [0, 3]) (c4_5)))⟩
def c5_0 : AC :=
  .seq (.region 0 [.mk4 0 (some 1) (.call 18 []) none,
    .mk4 1 (some 2) (.build ((List.replicate 96 ([.bool false, .i 0, .i 0] : List V)).flatten ++ [.nils, .ptr none, .int .u64 0, .bool false, .i 0, .i 0]) [(289, 1, (.t 1))]) none,
    .mk4 2 (some 3) (.box 294 (.t 2)) none,
    .mk4 3 (some 0) (.mv (.t 3)) none] [0]) (.ret)
def c5 : AFn := ⟨0, 4, [.tmp 0],
  (.seq (.region 0 [.mk4 0 (some 0) (.mv (.c (.ptr none))) none] []) (c5_0))⟩
def c13_0 : AC :=
  .seq (.region 0 [.mk4 0 (some 33) (.mv (.t 4)) none,
    .mk4 1 (some 34) (.bin .eql (.t 33) (.c (.i 0))) none,
    .mk4 2 (some 35) (.mv (.t 34)) none,
    .mk4 3 (some 36) (.mv (.t 2)) (some (35, true)),
    .mk4 4 (some 37) (.bin .eql (.t 36) (.c (.i 0))) (some (35, true)),
    .mk4 5 (some 38) (.pick (.t 35) (.t 37) (.c (.bool false))) none,
    .mk4 6 (some 39) (.mv (.t 38)) none,
    .mk4 7 (some 40) (.mv (.t 3)) (some (39, true)),
    .mk4 8 (some 41) (.bin .eql (.t 40) (.c (.i 0))) (some (39, true)),
    .mk4 9 (some 42) (.pick (.t 39) (.t 41) (.c (.bool false))) none,
    .mk4 10 (some 43) (.mv (.t 42)) none,
    .mk4 11 (some 44) (.mv (.t 5)) (some (43, true)),
    .mk4 12 (some 45) (.bin .eql (.t 44) (.c (.i 4))) (some (43, true)),
    .mk4 13 (some 46) (.pick (.t 43) (.t 45) (.c (.bool false))) none,
    .mk4 14 (some 47) (.mv (.t 46)) none,
    .mk4 15 (some 48) (.mv (.t 6)) (some (47, true)),
    .mk4 16 (some 49) (.bin .eql (.t 48) (.c (.i 0))) (some (47, true)),
    .mk4 17 (some 50) (.pick (.t 47) (.t 49) (.c (.bool false))) none,
    .mk4 18 (some 51) (.mv (.t 50)) none,
    .mk4 19 (some 52) (.faddr 1 (.t 7)) (some (51, true)),
    .mk4 20 (some 53) (.load1 (.t 52)) (some (51, true)),
    .mk4 21 (some 54) (.pick (.t 51) (.t 53) (.c (.bool false))) none,
    .mk4 22 (some 55) (.mv (.t 54)) none,
    .mk4 23 (some 56) (.faddr 2 (.t 7)) (some (55, true)),
    .mk4 24 (some 57) (.load1 (.t 56)) (some (55, true)),
    .mk4 25 (some 58) (.pick (.t 55) (.t 57) (.c (.bool false))) none,
    .mk4 26 (some 59) (.mv (.t 58)) none,
    .mk4 27 (some 60) (.faddr 5 (.t 7)) (some (59, true)),
    .mk4 28 (some 61) (.load1 (.t 60)) (some (59, true)),
    .mk4 29 (some 62) (.bin .eql (.t 61) (.c (.int .u64 1))) (some (59, true)),
    .mk4 30 (some 63) (.pick (.t 59) (.t 62) (.c (.bool false))) none,
    .mk4 31 (some 64) (.mv (.t 63)) none,
    .mk4 32 (some 65) (.mv (.t 8)) (some (64, true)),
    .mk4 33 (some 66) (.ofBytes (.t 65)) (some (64, true)),
    .mk4 34 (some 67) (.bin .eql (.t 66) (.c (.str [97, 98, 99]))) (some (64, true)),
    .mk4 35 (some 68) (.pick (.t 64) (.t 67) (.c (.bool false))) none,
    .mk4 36 (some 69) (.mv (.t 68)) none,
    .mk4 37 (some 70) (.mv (.t 9)) (some (69, true)),
    .mk4 38 (some 71) (.un .not (.t 70)) (some (69, true)),
    .mk4 39 (some 72) (.pick (.t 69) (.t 71) (.c (.bool false))) none,
    .mk4 40 (some 73) (.mv (.t 72)) none,
    .mk4 41 (some 74) (.mv (.t 10)) (some (73, true)),
    .mk4 42 (some 75) (.bin .eql (.t 74) (.c (.i 0))) (some (73, true)),
    .mk4 43 (some 76) (.pick (.t 73) (.t 75) (.c (.bool false))) none,
    .mk4 44 (some 0) (.mv (.t 76)) none] [0]) (.ret)
def c13_1 : AC :=
  .seq (.region 0 [.mk4 0 (some 28) (.mv (.t 1)) none,
    .mk4 1 (some 29) (.call 28 [(.t 28), (.c (.i 0)), (.c (.i 3))]) none,
    .mk4 2 (some 27) (.mv (.t 29)) none,
    .mk4 3 (some 30) (.extract (.t 27) 0) none,
    .mk4 4 (some 31) (.extract (.t 27) 1) none,
    .mk4 5 (some 32) (.extract (.t 27) 2) none,
    .mk4 6 (some 8) (.mv (.t 30)) none,
    .mk4 7 (some 9) (.mv (.t 31)) none,
    .mk4 8 (some 10) (.mv (.t 32)) none] [2, 3, 4, 5, 6, 7, 8, 9, 10]) (c13_0)
def c13_2 : AC :=
  .seq (.region 0 [.mk4 0 (some 25) (.mv (.t 1)) none,
    .mk4 1 (some 26) (.call 27 [(.t 25), (.c (.i 0))]) none,
    .mk4 2 (some 7) (.alloc 7 [.bool false, .bool false, .bool false, .bool false, .bool false, .int .u64 0, .int .u64 0]) none,
    .mk4 3 none (.store 7 (.t 7) (.t 26)) none] [1, 2, 3, 4, 5, 6, 7]) (c13_1)
def c13_3 : AC :=
  .seq (.region 0 [.mk4 0 (some 19) (.mv (.t 1)) none,
    .mk4 1 (some 20) (.bslice 1 6 [.int .u8 0, .int .u8 0, .int .u8 0, .int .u8 0, .int .u8 0, .int .u8 0] [(0, (.c (.int .u8 97))), (1, (.c (.int .u8 98))), (2, (.c (.int .u8 99))), (3, (.c (.int .u8 100))), (4, (.c (.int .u8 101))), (5, (.c (.int .u8 102)))]) none,
    .mk4 2 (some 21) (.mark (.t 20)) none,
    .mk4 3 (some 22) (.call 26 [(.t 19), (.c (.i 0)), (.t 21)]) none,
    .mk4 4 (some 18) (.mv (.t 22)) none,
    .mk4 5 (some 23) (.extract (.t 18) 0) none,
    .mk4 6 (some 24) (.extract (.t 18) 1) none,
    .mk4 7 (some 5) (.mv (.t 23)) none,
    .mk4 8 (some 6) (.mv (.t 24)) none] [1, 2, 3, 4, 5, 6]) (c13_2)
def c13_4 : AC :=
  .seq (.region 0 [.mk4 0 (some 13) (.mv (.t 1)) none,
    .mk4 1 (some 14) (.call 25 [(.t 13), (.c (.i 4))]) none,
    .mk4 2 (some 12) (.mv (.t 14)) none,
    .mk4 3 (some 15) (.extract (.t 12) 0) none,
    .mk4 4 (some 16) (.extract (.t 12) 1) none,
    .mk4 5 (some 17) (.extract (.t 12) 2) none,
    .mk4 6 (some 2) (.mv (.t 15)) none,
    .mk4 7 (some 3) (.mv (.t 16)) none,
    .mk4 8 (some 4) (.mv (.t 17)) none] [1, 2, 3, 4]) (c13_3)
def c13 : AFn := ⟨0, 77, [.tmp 0],
  (.seq (.region 0 [.mk4 0 (some 0) (.mv (.c (.bool false))) none] []) (.seq (.region 0 [.mk4 0 (some 11) (.call 5 []) none,
    .mk4 1 (some 1) (.mv (.t 11)) none] [1]) (c13_4)))⟩
def c14_0 : AC :=
  .seq (.seq (.region 0 [.mk4 0 (some 3) (.mv (.t 0)) none,
    .mk4 1 (some 4) (.call 29 [(.t 3)]) none] [0, 4]) (.cond (.t 4) (.seq (.region 0 [.mk4 0 (some 2) (.mv (.c (.int .u64 0))) none] [2]) (.ret)) (.skip))) (.seq (.region 0 [.mk4 0 (some 5) (.mv (.t 0)) none,
    .mk4 1 (some 6) (.nilck (.t 5)) none,
    .mk4 2 (some 7) (.faddr 290 (.t 6)) none,
    .mk4 3 (some 8) (.load1 (.t 7)) none,
    .mk4 4 (some 2) (.mv (.t 8)) none] [2]) (.ret))
def c14 : AFn := ⟨1, 9, [.tmp 2],
  (.seq (.region 0 [.mk4 0 (some 2) (.mv (.c (.int .u64 0))) none] [0]) (c14_0))⟩
def c15_0 : AC :=
  .region 0 [.mk4 0 (some 7) (.mv (.t 0)) none,
    .mk4 1 (some 8) (.nilck (.t 7)) none,
    .mk4 2 (some 9) (.faddr 290 (.t 8)) none,
    .mk4 3 (some 10) (.load1 (.t 9)) none,
    .mk4 4 (some 11) (.mv (.t 1)) none,
    .mk4 5 (some 12) (.mv (.t 0)) none,
    .mk4 6 (some 13) (.nilck (.t 12)) none,
    .mk4 7 (some 14) (.faddr 290 (.t 13)) none,
    .mk4 8 (some 15) (.load1 (.t 14)) none,
    .mk4 9 (some 16) (.bin .sub (.c (.int .u64 18446744073709551615)) (.t 15)) none,
    .mk4 10 (some 17) (.minI [(.t 11), (.t 16)]) none,
    .mk4 11 (some 18) (.bin .add (.t 10) (.t 17)) none,
    .mk4 12 (some 19) (.nilck (.t 7)) none,
    .mk4 13 (some 20) (.faddr 290 (.t 19)) none,
    .mk4 14 none (.store 1 (.t 20) (.t 18)) none] []
def c15 : AFn := ⟨2, 21, [],
  (.seq (.region 0 [.mk4 0 (some 4) (.mv (.t 0)) none,
    .mk4 1 (some 5) (.call 29 [(.t 4)]) none,
    .mk4 2 (some 6) (.un .not (.t 5)) none] [0, 1, 6]) (.cond (.t 6) (c15_0) (.skip)))⟩
def c16_0 : AC :=
  .seq (.region 0 [.mk4 0 (some 17) (.mv (.t 0)) none,
    .mk4 1 (some 18) (.mv (.t 5)) none,
    .mk4 2 (some 19) (.ixaS 1 (.t 17) (.t 18)) none,
    .mk4 3 (some 20) (.load1 (.t 19)) none,
    .mk4 4 (some 21) (.mv (.t 1)) none,
    .mk4 5 (some 22) (.mv (.t 5)) none,
    .mk4 6 (some 23) (.ixaS 1 (.t 21) (.t 22)) none,
    .mk4 7 (some 24) (.load1 (.t 23)) none,
    .mk4 8 (some 25) (.bin .neq (.t 20) (.t 24)) none] [0, 1, 5, 25]) (.cond (.t 25) (.seq (.region 0 [.mk4 0 (some 4) (.mv (.c (.bool false))) none] [4]) (.ret)) (.skip))
def c16_1 : AC :=
  .seq (.seq (.region 0 [.mk4 0 (some 11) (.mv (.t 5)) none,
    .mk4 1 (some 12) (.mv (.t 0)) none,
    .mk4 2 (some 13) (.lenL (.t 12)) none,
    .mk4 3 (some 14) (.bin .lss (.t 11) (.t 13)) none] [0, 1, 5, 14]) (.cond (.t 14) (.skip) (.exit 0))) (.seq (.block 1 (c16_0)) (.region 0 [.mk4 0 (some 15) (.mv (.t 5)) none,
    .mk4 1 (some 16) (.bin .add (.t 15) (.c (.i 1))) none,
    .mk4 2 (some 5) (.mv (.t 16)) none] [0, 1, 5]))
def c16_2 : AC :=
  .seq (.seq (.region 0 [.mk4 0 (some 6) (.mv (.t 0)) none,
    .mk4 1 (some 7) (.lenL (.t 6)) none,
    .mk4 2 (some 8) (.mv (.t 1)) none,
    .mk4 3 (some 9) (.lenL (.t 8)) none,
    .mk4 4 (some 10) (.bin .neq (.t 7) (.t 9)) none] [0, 1, 10]) (.cond (.t 10) (.seq (.region 0 [.mk4 0 (some 4) (.mv (.c (.bool false))) none] [4]) (.ret)) (.skip))) (.seq (.seq (.region 0 [.mk4 0 (some 5) (.mv (.c (.i 0))) none] [0, 1, 5]) (.block 0 (.loop [0, 1, 5] (c16_1)))) (.seq (.region 0 [.mk4 0 (some 4) (.mv (.c (.bool true))) none] [4]) (.ret)))
def c16 : AFn := ⟨2, 26, [.tmp 4],
  (.seq (.region 0 [.mk4 0 (some 4) (.mv (.c (.bool false))) none] [0, 1]) (c16_2))⟩
def c17_0 : AC :=
  .region 1 [.mk4 0 (some 161) (.mv (.t 3)) none,
    .mk4 1 (some 162) (.mv (.t 0)) none,
    .mk4 2 (some 163) (.nilck (.t 162)) none,
    .mk4 3 (some 164) (.faddr 291 (.t 163)) none,
    .mk4 4 (some 165) (.faddr 1 (.t 164)) none,
    .mk4 5 (some 166) (.load1 (.t 165)) none,
    .mk4 9 (some 170) (.mv (.t 0)) none,
    .mk4 10 (some 171) (.nilck (.t 170)) none,
    .mk4 11 (some 172) (.faddr 291 (.t 171)) none,
    .mk4 12 (some 173) (.faddr 2 (.t 172)) none,
    .mk4 13 (some 174) (.load1 (.t 173)) none,
    ⟨6, (some 167), .call 31 [(.t 166)], none, none, [(174, .load1 (.t 173), none)]⟩,
    .mk4 7 (some 168) (.bin .add (.c (.str [110, 111, 116, 105, 99, 101, 32])) (.t 167)) none,
    .mk4 8 (some 169) (.bin .add (.t 168) (.c (.str [32]))) none,
    .mk4 14 (some 175) (.call 31 [(.t 174)]) none,
    .mk4 15 (some 176) (.bin .add (.t 169) (.t 175)) none,
    ⟨16, (some 177), .bslice 1 1 [.str []] [(0, (.t 176))], none, some 0, []⟩,
    .mk4 17 (some 178) (.append 1 16 (.t 161) (.t 177)) none,
    .mk4 18 (some 3) (.mv (.t 178)) none] [3]
def c17_1 : AC :=
  .region 1 [.mk4 0 (some 141) (.mv (.t 3)) none,
    .mk4 1 (some 142) (.mv (.t 12)) none,
    .mk4 5 (some 146) (.mv (.t 0)) none,
    .mk4 6 (some 147) (.nilck (.t 146)) none,
    .mk4 7 (some 148) (.faddr 289 (.t 147)) none,
    .mk4 8 (some 149) (.load1 (.t 148)) none,
    .mk4 9 (some 150) (.mv (.t 12)) none,
    ⟨2, (some 143), .call 31 [(.t 142)], none, none, [(149, .load1 (.t 148), none)]⟩,
    .mk4 3 (some 144) (.bin .add (.c (.str [115, 105, 103, 110, 97, 108, 32])) (.t 143)) none,
    .mk4 4 (some 145) (.bin .add (.t 144) (.c (.str [32]))) none,
    .mk4 10 (some 151) (.call 35 [(.t 149), (.t 150)]) none,
    .mk4 11 (some 152) (.call 31 [(.t 151)]) none,
    .mk4 12 (some 153) (.bin .add (.t 145) (.t 152)) none,
    ⟨13, (some 154), .bslice 1 1 [.str []] [(0, (.t 153))], none, some 0, []⟩,
    .mk4 14 (some 155) (.append 1 16 (.t 141) (.t 154)) none,
    .mk4 15 (some 3) (.mv (.t 155)) none] [0, 3, 12]
def c17_2 : AC :=
  .seq (.region 0 [.mk4 0 (some 135) (.mv (.t 0)) none,
    .mk4 1 (some 136) (.nilck (.t 135)) none,
    .mk4 2 (some 137) (.faddr 289 (.t 136)) none,
    .mk4 3 (some 138) (.load1 (.t 137)) none,
    .mk4 4 (some 139) (.mv (.t 12)) none,
    .mk4 5 (some 140) (.call 34 [(.t 138), (.t 139)]) none] [0, 3, 12, 140]) (.cond (.t 140) (c17_1) (.skip))
def c17_3 : AC :=
  .seq (.seq (.region 0 [.mk4 0 (some 131) (.mv (.t 12)) none,
    .mk4 1 (some 132) (.bin .leq (.t 131) (.c (.i 31))) none] [0, 3, 12, 132]) (.cond (.t 132) (.skip) (.exit 6))) (.seq (.block 7 (c17_2)) (.region 0 [.mk4 0 (some 133) (.mv (.t 12)) none,
    .mk4 1 (some 134) (.bin .add (.t 133) (.c (.i 1))) none,
    .mk4 2 (some 12) (.mv (.t 134)) none] [0, 3, 12]))
def c17_4 : AC :=
  .seq (.seq (.region 0 [.mk4 0 (some 156) (.mv (.t 0)) none,
    .mk4 1 (some 157) (.nilck (.t 156)) none,
    .mk4 2 (some 158) (.faddr 291 (.t 157)) none,
    .mk4 3 (some 159) (.faddr 0 (.t 158)) none,
    .mk4 4 (some 160) (.load1 (.t 159)) none] [0, 3, 160]) (.cond (.t 160) (c17_0) (.skip))) (.seq (.region 0 [.mk4 0 (some 179) (.mv (.t 3)) none,
    .mk4 1 (some 2) (.mv (.t 179)) none] [2]) (.ret))
def c17_5 : AC :=
  .region 0 [.mk4 0 (some 125) (.mv (.t 3)) none,
    .mk4 1 (some 126) (.mv (.t 9)) none,
    .mk4 2 (some 127) (.call 33 [(.t 126), (.c (.str [32]))]) none,
    .mk4 3 (some 128) (.bslice 1 1 [.str []] [(0, (.t 127))]) none,
    .mk4 4 (some 129) (.append 1 16 (.t 125) (.t 128)) none,
    .mk4 5 (some 3) (.mv (.t 129)) none] [0, 3, 65, 66, 67]
def c17_6 : AC :=
  .region 0 [.mk4 0 (some 97) (.mv (.t 9)) none,
    .mk4 1 (some 98) (.mv (.t 11)) none,
    .mk4 2 (some 99) (.call 31 [(.t 98)]) none,
    .mk4 3 (some 100) (.bslice 1 1 [.str []] [(0, (.t 99))]) none,
    .mk4 4 (some 101) (.append 1 16 (.t 97) (.t 100)) none,
    .mk4 5 (some 9) (.mv (.t 101)) none] [0, 3, 8, 9, 65, 66, 67, 91, 92, 93]
def c17_7 : AC :=
  .seq (.block 5 (.seq (.region 0 [.mk4 0 (some 95) (.ixaS 1 (.t 91) (.t 93)) none,
    .mk4 1 (some 96) (.load1 (.t 95)) none,
    .mk4 2 (some 11) (.mv (.t 96)) none] [0, 3, 8, 9, 11, 65, 66, 67, 91, 92, 93]) (c17_6))) (.region 0 [.mk4 0 (some 102) (.bin .add (.t 93) (.c (.i 1))) none,
    .mk4 1 (some 93) (.mv (.t 102)) none] [0, 3, 8, 9, 65, 66, 67, 91, 92, 93])
def c17_8 : AC :=
  .seq (.region 0 [.mk4 0 (some 88) (.mv (.t 8)) none,
    .mk4 1 (some 89) (.nilck (.t 88)) none,
    .mk4 2 (some 90) (.faddr 16 (.t 89)) none,
    .mk4 3 (some 91) (.load1 (.t 90)) none,
    .mk4 4 (some 92) (.lenL (.t 91)) none,
    .mk4 5 (some 93) (.mv (.c (.i 0))) none] [0, 3, 8, 9, 65, 66, 67, 91, 92, 93]) (.block 4 (.loop [0, 3, 8, 9, 65, 66, 67, 91, 92, 93] (.seq (.region 0 [.mk4 0 (some 94) (.bin .lss (.t 93) (.t 92)) none] [0, 3, 8, 9, 65, 66, 67, 91, 92, 93, 94]) (.seq (.cond (.t 94) (.skip) (.exit 4)) (c17_7)))))
def c17_9 : AC :=
  .seq (.region 0 [.mk4 0 (some 80) (.mv (.t 9)) none,
    .mk4 1 (some 81) (.mv (.t 8)) none,
    .mk4 2 (some 82) (.nilck (.t 81)) none,
    .mk4 3 (some 83) (.faddr 15 (.t 82)) none,
    .mk4 4 (some 84) (.load1 (.t 83)) none,
    .mk4 5 (some 85) (.call 31 [(.t 84)]) none,
    .mk4 6 (some 86) (.bslice 1 2 [.str [], .str []] [(0, (.c (.str [108, 105, 115, 116, 101, 110]))), (1, (.t 85))]) none,
    .mk4 7 (some 87) (.append 1 16 (.t 80) (.t 86)) none,
    .mk4 8 (some 9) (.mv (.t 87)) none] [0, 3, 8, 9, 65, 66, 67]) (c17_8)
def c17_10 : AC :=
  .region 0 [.mk4 0 (some 103) (.mv (.t 9)) none,
    .mk4 1 (some 104) (.mv (.t 8)) none,
    .mk4 2 (some 105) (.nilck (.t 104)) none,
    .mk4 3 (some 106) (.faddr 0 (.t 105)) none,
    .mk4 4 (some 107) (.ixaA 2 7 (.t 106) (.c (.i 0))) none,
    .mk4 5 (some 108) (.loadN 7 (.t 107)) none,
    .mk4 8 (some 111) (.mv (.t 8)) none,
    .mk4 9 (some 112) (.nilck (.t 111)) none,
    .mk4 10 (some 113) (.faddr 0 (.t 112)) none,
    .mk4 11 (some 114) (.ixaA 2 7 (.t 113) (.c (.i 1))) none,
    .mk4 12 (some 115) (.loadN 7 (.t 114)) none,
    ⟨6, (some 109), .call 32 [(.t 108)], none, none, [(115, .loadN 7 (.t 114), none)]⟩,
    ⟨7, (some 110), .append 1 16 (.t 103) (.t 109), none, none, [(115, .loadN 7 (.t 114), none)]⟩,
    .mk4 13 (some 116) (.call 32 [(.t 115)]) none,
    .mk4 14 (some 117) (.append 1 16 (.t 110) (.t 116)) none,
    .mk4 15 (some 9) (.mv (.t 117)) none] [0, 3, 8, 9, 65, 66, 67]
def c17_11 : AC :=
  .seq (.seq (.region 0 [.mk4 0 (some 118) (.mv (.t 8)) none,
    .mk4 1 (some 119) (.nilck (.t 118)) none,
    .mk4 2 (some 120) (.faddr 14 (.t 119)) none,
    .mk4 3 (some 121) (.load1 (.t 120)) none] [0, 3, 9, 65, 66, 67, 121]) (.cond (.t 121) (.region 0 [.mk4 0 (some 122) (.mv (.t 9)) none,
    .mk4 1 (some 123) (.bslice 1 1 [.str []] [(0, (.c (.str [114, 101, 115, 101, 116])))]) none,
    .mk4 2 (some 124) (.append 1 16 (.t 122) (.t 123)) none,
    .mk4 3 (some 9) (.mv (.t 124)) none] [0, 3, 9, 65, 66, 67]) (.skip))) (c17_5)
def c17_12 : AC :=
  .seq (.seq (.region 0 [.mk4 0 (some 75) (.mv (.t 8)) none,
    .mk4 1 (some 76) (.nilck (.t 75)) none,
    .mk4 2 (some 77) (.faddr 15 (.t 76)) none,
    .mk4 3 (some 78) (.load1 (.t 77)) none,
    .mk4 4 (some 79) (.bin .gtr (.t 78) (.c (.i 0))) none] [0, 3, 8, 9, 65, 66, 67, 79]) (.cond (.t 79) (c17_9) (c17_10))) (c17_11)
def c17_13 : AC :=
  .seq (.region 0 [.mk4 0 (some 69) (.mv (.t 67)) none,
    .mk4 1 (some 70) (.ixaS 1 (.t 65) (.t 67)) none,
    .mk4 2 (some 71) (.load1 (.t 70)) none,
    .mk4 3 (some 7) (.mv (.t 69)) none,
    .mk4 4 (some 8) (.mv (.t 71)) none] [0, 3, 7, 8, 65, 66, 67]) (.seq (.region 0 [.mk4 0 (some 72) (.mv (.t 7)) none,
    .mk4 1 (some 73) (.call 31 [(.t 72)]) none,
    .mk4 2 (some 74) (.bslice 1 2 [.str [], .str []] [(0, (.c (.str [119, 105, 114, 101]))), (1, (.t 73))]) none,
    .mk4 3 (some 9) (.mv (.t 74)) none] [0, 3, 8, 9, 65, 66, 67]) (c17_12))
def c17_14 : AC :=
  .loop [0, 3, 65, 66, 67] (.seq (.region 0 [.mk4 0 (some 68) (.bin .lss (.t 67) (.t 66)) none] [0, 3, 65, 66, 67, 68]) (.seq (.cond (.t 68) (.skip) (.exit 2)) (.seq (.block 3 (c17_13)) (.region 0 [.mk4 0 (some 130) (.bin .add (.t 67) (.c (.i 1))) none,
    .mk4 1 (some 67) (.mv (.t 130)) none] [0, 3, 65, 66, 67]))))
def c17_15 : AC :=
  .region 1 [.mk4 0 (some 46) (.mv (.t 3)) none,
    .mk4 1 (some 47) (.mv (.t 4)) none,
    .mk4 5 (some 51) (.faddr 1 (.t 5)) none,
    .mk4 6 (some 52) (.load1 (.t 51)) none,
    .mk4 10 (some 56) (.mv (.t 6)) none,
    ⟨2, (some 48), .call 31 [(.t 47)], none, none, [(52, .load1 (.t 51), none)]⟩,
    .mk4 3 (some 49) (.bin .add (.c (.str [102, 100, 32])) (.t 48)) none,
    .mk4 4 (some 50) (.bin .add (.t 49) (.c (.str [32, 119, 105, 114, 101, 32]))) none,
    .mk4 7 (some 53) (.call 31 [(.t 52)]) none,
    .mk4 8 (some 54) (.bin .add (.t 50) (.t 53)) none,
    .mk4 9 (some 55) (.bin .add (.t 54) (.c (.str [32, 101, 110, 100, 32]))) none,
    .mk4 11 (some 57) (.call 31 [(.t 56)]) none,
    .mk4 12 (some 58) (.bin .add (.t 55) (.t 57)) none,
    ⟨13, (some 59), .bslice 1 1 [.str []] [(0, (.t 58))], none, some 0, []⟩,
    .mk4 14 (some 60) (.append 1 16 (.t 46) (.t 59)) none,
    .mk4 15 (some 3) (.mv (.t 60)) none] [0, 3, 25, 26]
def c17_16 : AC :=
  .seq (.seq (.region 0 [.mk4 0 (some 34) (.mv (.t 0)) none,
    .mk4 1 (some 35) (.nilck (.t 34)) none,
    .mk4 2 (some 36) (.faddr 288 (.t 35)) none,
    .mk4 3 (some 37) (.load1 (.t 36)) none,
    .mk4 4 (some 38) (.faddr 1 (.t 5)) none,
    .mk4 5 (some 39) (.load1 (.t 38)) none,
    .mk4 6 (some 40) (.ixaS 1 (.t 37) (.t 39)) none,
    .mk4 7 (some 41) (.load1 (.t 40)) none,
    .mk4 8 (some 42) (.nilck (.t 41)) none,
    .mk4 9 (some 43) (.faddr 15 (.t 42)) none,
    .mk4 10 (some 44) (.load1 (.t 43)) none,
    .mk4 11 (some 45) (.bin .gtr (.t 44) (.c (.i 0))) none] [0, 3, 4, 5, 6, 25, 26, 45]) (.cond (.t 45) (.region 0 [.mk4 0 (some 6) (.mv (.c (.i 2))) none] [0, 3, 4, 5, 6, 25, 26]) (.skip))) (c17_15)
def c17_17 : AC :=
  .seq (.region 0 [.mk4 0 (some 30) (.faddr 0 (.t 5)) none,
    .mk4 1 (some 31) (.load1 (.t 30)) none] [0, 3, 4, 5, 25, 26, 31]) (.cond (.t 31) (.seq (.region 0 [.mk4 0 (some 32) (.faddr 2 (.t 5)) none,
    .mk4 1 (some 33) (.load1 (.t 32)) none,
    .mk4 2 (some 6) (.mv (.t 33)) none] [0, 3, 4, 5, 6, 25, 26]) (c17_16)) (.skip))
def c17_18 : AC :=
  .seq (.block 1 (.seq (.region 0 [.mk4 0 (some 28) (.mv (.t 26)) none,
    .mk4 1 (some 29) (.ixA 96 3 (some 3) (.t 25) (.t 26)) none,
    .mk4 2 (some 5) (.alloc 3 [.bool false, .i 0, .i 0]) none,
    .mk4 3 (some 4) (.mv (.t 28)) none,
    .mk4 4 none (.store 3 (.t 5) (.t 29)) none] [0, 3, 4, 5, 25, 26]) (c17_17))) (.region 0 [.mk4 0 (some 61) (.bin .add (.t 26) (.c (.i 1))) none,
    .mk4 1 (some 26) (.mv (.t 61)) none] [0, 3, 25, 26])
def c17_19 : AC :=
  .seq (.seq (.region 0 [.mk4 0 (some 62) (.mv (.t 0)) none,
    .mk4 1 (some 63) (.nilck (.t 62)) none,
    .mk4 2 (some 64) (.faddr 288 (.t 63)) none,
    .mk4 3 (some 65) (.load1 (.t 64)) none,
    .mk4 4 (some 66) (.lenL (.t 65)) none,
    .mk4 5 (some 67) (.mv (.c (.i 0))) none] [0, 3, 65, 66, 67]) (.block 2 (c17_14))) (.seq (.seq (.region 0 [.mk4 0 (some 12) (.mv (.c (.i 1))) none] [0, 3, 12]) (.block 6 (.loop [0, 3, 12] (c17_3)))) (c17_4))
def c17_20 : AC :=
  .seq (.seq (.region 0 [.mk4 0 (some 22) (.mv (.t 0)) none,
    .mk4 1 (some 23) (.nilck (.t 22)) none,
    .mk4 2 (some 24) (.faddr 0 (.t 23)) none,
    .mk4 3 (some 25) (.loadN 288 (.t 24)) none,
    .mk4 4 (some 26) (.mv (.c (.i 0))) none] [0, 3, 25, 26]) (.block 0 (.loop [0, 3, 25, 26] (.seq (.region 0 [.mk4 0 (some 27) (.bin .lss (.t 26) (.c (.i 96))) none] [0, 3, 25, 26, 27]) (.seq (.cond (.t 27) (.skip) (.exit 0)) (c17_18)))))) (c17_19)
def c17_21 : AC :=
  .seq (.region 0 [.mk4 0 (some 15) (.mv (.t 0)) none,
    .mk4 1 (some 16) (.nilck (.t 15)) none,
    .mk4 2 (some 17) (.faddr 290 (.t 16)) none,
    .mk4 3 (some 18) (.load1 (.t 17)) none,
    .mk4 4 (some 19) (.call 30 [(.t 18), (.c (.i 10))]) none,
    .mk4 5 (some 20) (.bin .add (.c (.str [110, 111, 119, 32])) (.t 19)) none,
    .mk4 6 (some 21) (.bslice 1 1 [.str []] [(0, (.t 20))]) none,
    .mk4 7 (some 3) (.mv (.t 21)) none] [0, 3]) (c17_20)
def c17 : AFn := ⟨1, 180, [.tmp 2],
  (.seq (.region 0 [.mk4 0 (some 2) (.mv (.c (.nils))) none] [0]) (.seq (.seq (.region 0 [.mk4 0 (some 13) (.mv (.t 0)) none,
    .mk4 1 (some 14) (.call 29 [(.t 13)]) none] [0, 14]) (.cond (.t 14) (.seq (.region 0 [.mk4 0 (some 2) (.mv (.c (.nils))) none] [2]) (.ret)) (.skip))) (c17_21)))⟩
def c18 : AFn := ⟨0, 3, [.tmp 0],
  (.seq (.region 0 [.mk4 0 (some 0) (.mv (.c (.ptr none))) none] []) (.seq (.region 0 [.mk4 0 (some 1) (.build (List.replicate 32 (.bool false : V) ++ List.replicate 32 (.i 0 : V)) []) none,
    .mk4 1 (some 2) (.box 64 (.t 1)) none,
    .mk4 2 (some 0) (.mv (.t 2)) none] [0]) (.ret)))⟩
def c25_0 : AC :=
  .seq (.region 0 [.mk4 0 (some 26) (.mv (.t 8)) none,
    .mk4 1 (some 27) (.ixaS 1 (.t 26) (.c (.i 0))) none,
    .mk4 2 (some 28) (.load1 (.t 27)) none,
    .mk4 3 (some 29) (.mv (.t 0)) none,
    .mk4 4 (some 30) (.nilck (.t 29)) none,
    .mk4 5 (some 31) (.faddr 288 (.t 30)) none,
    .mk4 6 (some 32) (.load1 (.t 31)) none,
    .mk4 7 (some 33) (.lenL (.t 32)) none,
    .mk4 8 (some 34) (.bin .sub (.t 33) (.c (.i 1))) none,
    .mk4 9 (some 4) (.mv (.t 28)) none,
    .mk4 10 (some 5) (.mv (.t 34)) none,
    .mk4 11 (some 6) (.mv (.c (.i 0))) none] [4, 5, 6]) (.ret)
def c25_1 : AC :=
  .seq (.seq (.region 0 [.mk4 0 (some 23) (.mv (.t 6)) none,
    .mk4 1 (some 24) (.bin .neq (.t 23) (.c (.i 0))) none] [0, 6, 8, 24]) (.cond (.t 24) (.seq (.region 0 [.mk4 0 (some 25) (.mv (.t 6)) none,
    .mk4 1 (some 4) (.mv (.c (.i 0))) none,
    .mk4 2 (some 5) (.mv (.c (.i 0))) none,
    .mk4 3 (some 6) (.mv (.t 25)) none] [4, 5, 6]) (.ret)) (.skip))) (c25_0)
def c25_2 : AC :=
  .seq (.region 0 [.mk4 0 (some 17) (.mv (.t 0)) none,
    .mk4 1 (some 18) (.mv (.t 1)) none,
    .mk4 2 (some 19) (.mv (.t 7)) none,
    .mk4 3 (some 20) (.call 44 [(.t 17), (.t 18), (.c (.i 1)), (.t 19)]) none,
    .mk4 4 (some 16) (.mv (.t 20)) none,
    .mk4 5 (some 21) (.extract (.t 16) 0) none,
    .mk4 6 (some 22) (.extract (.t 16) 1) none,
    .mk4 7 (some 8) (.mv (.t 21)) none,
    .mk4 8 (some 6) (.mv (.t 22)) none] [0, 6, 8]) (c25_1)
def c25_3 : AC :=
  .seq (.region 0 [.mk4 0 (some 11) (.mv (.t 7)) none,
    .mk4 1 (some 12) (.nilck (.t 11)) none,
    .mk4 2 (some 13) (.faddr 0 (.t 12)) none,
    .mk4 3 (some 14) (.ixaA 2 7 (.t 13) (.c (.i 1))) none,
    .mk4 4 (some 15) (.faddr 0 (.t 14)) none,
    .mk4 5 none (.store 1 (.t 15) (.c (.i 2))) none] [0, 1, 7]) (c25_2)
def c25_4 : AC :=
  .seq (.region 0 [.mk4 0 (some 4) (.mv (.c (.i 0))) none,
    .mk4 1 (some 5) (.mv (.c (.i 0))) none,
    .mk4 2 (some 6) (.mv (.c (.i 0))) none] [0, 1]) (.seq (.region 0 [.mk4 0 (some 9) (.mv (.t 1)) none,
    .mk4 1 (some 10) (.call 43 [(.t 9)]) none,
    .mk4 2 (some 7) (.mv (.t 10)) none] [0, 1, 7]) (c25_3))
def c25 : AFn := ⟨2, 35, [.tmp 4, .tmp 5, .tmp 6],
  (c25_4)⟩
def c26_0 : AC :=
  .seq (.region 0 [.mk4 0 (some 26) (.mv (.t 8)) none,
    .mk4 1 (some 27) (.nilck (.t 26)) none,
    .mk4 2 (some 28) (.faddr 0 (.t 27)) none,
    .mk4 3 (some 29) (.ixaA 2 7 (.t 28) (.c (.i 1))) none,
    .mk4 4 (some 30) (.faddr 4 (.t 29)) none,
    .mk4 5 (some 31) (.load1 (.t 30)) none,
    .mk4 6 (some 32) (.mv (.t 31)) none,
    .mk4 7 (some 33) (.mv (.t 8)) (some (32, false)),
    .mk4 8 (some 34) (.nilck (.t 33)) (some (32, false)),
    .mk4 9 (some 35) (.faddr 0 (.t 34)) (some (32, false)),
    .mk4 10 (some 36) (.ixaA 2 7 (.t 35) (.c (.i 0))) (some (32, false)),
    .mk4 11 (some 37) (.faddr 0 (.t 36)) (some (32, false)),
    .mk4 12 (some 38) (.load1 (.t 37)) (some (32, false)),
    .mk4 13 (some 39) (.bin .eql (.t 38) (.c (.i 3))) (some (32, false)),
    .mk4 14 (some 40) (.pick (.t 32) (.c (.bool true)) (.t 39)) none,
    .mk4 15 (some 25) (.mv (.t 40)) none] [2, 8, 25]) (.cond (.t 25) (.seq (.region 0 [.mk4 0 (some 6) (.mv (.c (.i 0))) none,
    .mk4 1 (some 7) (.mv (.c (.i 114))) none] [6, 7]) (.ret)) (.skip))
def c26_1 : AC :=
  .seq (.region 0 [.mk4 0 (some 21) (.mv (.t 8)) none,
    .mk4 1 (some 22) (.nilck (.t 21)) none,
    .mk4 2 (some 23) (.faddr 14 (.t 22)) none,
    .mk4 3 (some 24) (.load1 (.t 23)) none,
    .mk4 4 (some 20) (.mv (.t 24)) none] [2, 8, 20]) (.cond (.t 20) (.seq (.region 0 [.mk4 0 (some 6) (.mv (.c (.i 0))) none,
    .mk4 1 (some 7) (.mv (.c (.i 115))) none] [6, 7]) (.ret)) (c26_0))
def c26_2 : AC :=
  .seq (.region 0 [.mk4 0 (some 17) (.mv (.t 9)) none,
    .mk4 1 (some 18) (.bin .neq (.t 17) (.c (.i 0))) none,
    .mk4 2 (some 16) (.mv (.t 18)) none] [2, 8, 9, 16]) (.cond (.t 16) (.seq (.region 0 [.mk4 0 (some 19) (.mv (.t 9)) none,
    .mk4 1 (some 6) (.mv (.c (.i 0))) none,
    .mk4 2 (some 7) (.mv (.t 19)) none] [6, 7]) (.ret)) (c26_1))
def c26_3 : AC :=
  .seq (.region 0 [.mk4 0 (some 11) (.mv (.t 0)) none,
    .mk4 1 (some 12) (.mv (.t 1)) none,
    .mk4 2 (some 13) (.call 45 [(.t 11), (.t 12)]) none,
    .mk4 3 (some 10) (.mv (.t 13)) none,
    .mk4 4 (some 14) (.extract (.t 10) 0) none,
    .mk4 5 (some 15) (.extract (.t 10) 1) none,
    .mk4 6 (some 8) (.mv (.t 14)) none,
    .mk4 7 (some 9) (.mv (.t 15)) none] [2, 8, 9]) (.seq (.block 0 (c26_2)) (.seq (.region 0 [.mk4 0 (some 41) (.mv (.t 8)) none,
    .mk4 1 (some 42) (.mv (.t 2)) none,
    .mk4 2 (some 43) (.call 46 [(.t 41), (.c (.i 1)), (.t 42)]) none,
    .mk4 3 (some 6) (.mv (.t 43)) none,
    .mk4 4 (some 7) (.mv (.c (.i 0))) none] [6, 7]) (.ret)))
def c26 : AFn := ⟨3, 44, [.tmp 6, .tmp 7],
  (.seq (.region 0 [.mk4 0 (some 6) (.mv (.c (.i 0))) none,
    .mk4 1 (some 7) (.mv (.c (.i 0))) none] [0, 1, 2]) (c26_3))⟩
def c27_0 : AC :=
  .seq (.region 0 [.mk4 0 (some 85) (.faddr 3 (.t 8)) none,
    .mk4 1 (some 86) (.load1 (.t 85)) none,
    .mk4 2 (some 87) (.mv (.t 86)) none,
    .mk4 3 (some 88) (.faddr 4 (.t 8)) (some (87, true)),
    .mk4 4 (some 89) (.load1 (.t 88)) (some (87, true)),
    .mk4 5 (some 90) (.un .not (.t 89)) (some (87, true)),
    .mk4 6 (some 91) (.pick (.t 87) (.t 90) (.c (.bool false))) none,
    .mk4 7 (some 92) (.mv (.t 91)) none,
    .mk4 8 (some 93) (.faddr 3 (.t 10)) (some (92, true)),
    .mk4 9 (some 94) (.load1 (.t 93)) (some (92, true)),
    .mk4 10 (some 95) (.mv (.t 94)) (some (92, true)),
    .mk4 11 (some 96) (.mv (.t 6)) (some (95, false)),
    .mk4 12 (some 97) (.nilck (.t 96)) (some (95, false)),
    .mk4 13 (some 98) (.faddr 14 (.t 97)) (some (95, false)),
    .mk4 14 (some 99) (.load1 (.t 98)) (some (95, false)),
    .mk4 15 (some 100) (.pick (.t 95) (.c (.bool true)) (.t 99)) (some (92, true)),
    .mk4 16 (some 101) (.mv (.t 100)) (some (92, true)),
    .mk4 17 (some 102) (.faddr 2 (.t 9)) (some (101, false)),
    .mk4 18 (some 103) (.load1 (.t 102)) (some (101, false)),
    .mk4 19 (some 104) (.call 50 [(.t 103)]) (some (101, false)),
    .mk4 20 (some 105) (.bin .gtr (.t 104) (.c (.i 0))) (some (101, false)),
    .mk4 21 (some 106) (.pick (.t 101) (.c (.bool true)) (.t 105)) (some (92, true)),
    .mk4 22 (some 107) (.pick (.t 92) (.t 106) (.c (.bool false))) none,
    .mk4 23 (some 108) (.faddr 2 (.t 10)) none,
    .mk4 24 none (.store 1 (.t 108) (.t 107)) none] [4, 10]) (.seq (.region 0 [.mk4 0 (some 109) (.loadN 7 (.t 10)) none,
    .mk4 1 none (.store 7 (.t 4) (.t 109)) none] [4]) (.ret))
def c27_1 : AC :=
  .seq (.region 0 [.mk4 0 (some 63) (.faddr 2 (.t 8)) none,
    .mk4 1 (some 64) (.load1 (.t 63)) none,
    .mk4 2 (some 65) (.eq .ptr true (.t 64) (.c (.ptr none))) none,
    .mk4 3 (some 66) (.mv (.t 65)) none,
    .mk4 4 (some 67) (.faddr 2 (.t 8)) (some (66, true)),
    .mk4 5 (some 68) (.load1 (.t 67)) (some (66, true)),
    .mk4 6 (some 69) (.call 48 [(.t 68)]) (some (66, true)),
    .mk4 7 (some 70) (.bin .gtr (.t 69) (.c (.i 0))) (some (66, true)),
    .mk4 8 (some 71) (.mv (.t 70)) (some (66, true)),
    .mk4 9 (some 72) (.mv (.t 6)) (some (71, false)),
    .mk4 10 (some 73) (.faddr 2 (.t 5)) (some (71, false)),
    .mk4 11 (some 74) (.load1 (.t 73)) (some (71, false)),
    .mk4 12 (some 75) (.call 49 [(.t 72), (.t 74)]) (some (71, false)),
    .mk4 13 (some 76) (.pick (.t 71) (.c (.bool true)) (.t 75)) (some (66, true)),
    .mk4 14 (some 77) (.mv (.t 76)) (some (66, true)),
    .mk4 15 (some 78) (.mv (.t 6)) (some (77, false)),
    .mk4 16 (some 79) (.nilck (.t 78)) (some (77, false)),
    .mk4 17 (some 80) (.faddr 14 (.t 79)) (some (77, false)),
    .mk4 18 (some 81) (.load1 (.t 80)) (some (77, false)),
    .mk4 19 (some 82) (.pick (.t 77) (.c (.bool true)) (.t 81)) (some (66, true)),
    .mk4 20 (some 83) (.pick (.t 66) (.t 82) (.c (.bool false))) none,
    .mk4 21 (some 84) (.faddr 1 (.t 10)) none,
    .mk4 22 none (.store 1 (.t 84) (.t 83)) none] [4, 6, 8, 9, 10]) (c27_0)
def c27_2 : AC :=
  .seq (.region 0 [.mk4 0 (some 46) (.mv (.t 6)) none,
    .mk4 1 (some 47) (.nilck (.t 46)) none,
    .mk4 2 (some 48) (.faddr 16 (.t 47)) none,
    .mk4 3 (some 49) (.load1 (.t 48)) none,
    .mk4 4 (some 50) (.lenL (.t 49)) none,
    .mk4 5 (some 51) (.bin .gtr (.t 50) (.c (.i 0))) none,
    .mk4 6 (some 52) (.faddr 1 (.t 10)) none,
    .mk4 7 none (.store 1 (.t 52) (.t 51)) none] [4, 10]) (.seq (.region 0 [.mk4 0 (some 53) (.loadN 7 (.t 10)) none,
    .mk4 1 none (.store 7 (.t 4) (.t 53)) none] [4]) (.ret))
def c27_3 : AC :=
  .seq (.region 0 [.mk4 0 (some 54) (.faddr 0 (.t 9)) none,
    .mk4 1 (some 55) (.load1 (.t 54)) none,
    .mk4 2 (some 56) (.bin .eql (.t 55) (.c (.i 3))) none,
    .mk4 3 (some 57) (.mv (.t 6)) none,
    .mk4 4 (some 58) (.nilck (.t 57)) none,
    .mk4 5 (some 59) (.faddr 14 (.t 58)) none,
    .mk4 6 (some 60) (.load1 (.t 59)) none,
    .mk4 7 (some 61) (.faddr 3 (.t 10)) none,
    ⟨8, none, .store 1 (.t 61) (.t 56), none, none, [(60, .load1 (.t 59), none)]⟩,
    .mk4 9 (some 62) (.faddr 4 (.t 10)) none,
    .mk4 10 none (.store 1 (.t 62) (.t 60)) none] [4, 5, 6, 8, 9, 10]) (c27_1)
def c27_4 : AC :=
  .seq (.seq (.region 0 [.mk4 0 (some 41) (.mv (.t 6)) none,
    .mk4 1 (some 42) (.nilck (.t 41)) none,
    .mk4 2 (some 43) (.faddr 15 (.t 42)) none,
    .mk4 3 (some 44) (.load1 (.t 43)) none,
    .mk4 4 (some 45) (.bin .gtr (.t 44) (.c (.i 0))) none] [4, 5, 6, 8, 9, 10, 45]) (.cond (.t 45) (c27_2) (.skip))) (c27_3)
def c27_5 : AC :=
  .seq (.region 0 [.mk4 0 (some 36) (.faddr 5 (.t 8)) none,
    .mk4 1 (some 37) (.load1 (.t 36)) none,
    .mk4 2 (some 38) (.faddr 6 (.t 8)) none,
    .mk4 3 (some 39) (.load1 (.t 38)) none,
    .mk4 4 (some 40) (.build [.bool false, .bool false, .bool false, .bool false, .bool false, .int .u64 0, .int .u64 0] [(0, 1, (.c (.bool true))), (5, 1, (.t 37)), (6, 1, (.t 39))]) none,
    .mk4 5 (some 10) (.alloc 7 [.bool false, .bool false, .bool false, .bool false, .bool false, .int .u64 0, .int .u64 0]) none,
    .mk4 6 none (.store 7 (.t 10) (.t 40)) none] [4, 5, 6, 8, 9, 10]) (c27_4)
def c27_6 : AC :=
  .seq (.region 2 [.mk4 0 (some 21) (.mv (.t 6)) none,
    .mk4 1 (some 22) (.faddr 2 (.t 5)) none,
    .mk4 2 (some 23) (.load1 (.t 22)) none,
    .mk4 3 (some 24) (.nilck (.t 21)) none,
    .mk4 4 (some 25) (.faddr 0 (.t 24)) none,
    .mk4 5 (some 26) (.ixaA 2 7 (.t 25) (.t 23)) none,
    .mk4 6 (some 27) (.loadN 7 (.t 26)) none,
    .mk4 7 (some 28) (.mv (.t 6)) none,
    .mk4 8 (some 29) (.faddr 2 (.t 5)) none,
    .mk4 9 (some 30) (.load1 (.t 29)) none,
    .mk4 10 (some 31) (.bin .sub (.c (.i 1)) (.t 30)) none,
    .mk4 11 (some 32) (.nilck (.t 28)) none,
    .mk4 12 (some 33) (.faddr 0 (.t 32)) none,
    .mk4 13 (some 34) (.ixaA 2 7 (.t 33) (.t 31)) none,
    .mk4 14 (some 35) (.loadN 7 (.t 34)) none,
    ⟨15, (some 8), .alloc 7 [.i 0, .i 0, .ptr none, .bool false, .bool false, .int .u64 0, .int .u64 0], none, some 0, []⟩,
    ⟨16, (some 9), .alloc 7 [.i 0, .i 0, .ptr none, .bool false, .bool false, .int .u64 0, .int .u64 0], none, some 1, []⟩,
    ⟨17, none, .store 7 (.t 8) (.t 27), none, none, [(30, .load1 (.t 29), none), (35, .loadN 7 (.t 34), none)]⟩,
    .mk4 18 none (.store 7 (.t 9) (.t 35)) none] [4, 5, 6, 8, 9]) (c27_5)
def c27_7 : AC :=
  .seq (.seq (.region 0 [.mk4 0 (some 18) (.mv (.t 7)) none,
    .mk4 1 (some 19) (.bin .neq (.t 18) (.c (.i 0))) none] [4, 5, 6, 19]) (.cond (.t 19) (.seq (.region 0 [.mk4 0 (some 20) (.build [.bool false, .bool false, .bool false, .bool false, .bool false, .int .u64 0, .int .u64 0] []) none,
    .mk4 1 none (.store 7 (.t 4) (.t 20)) none] [4]) (.ret)) (.skip))) (c27_6)
def c27_8 : AC :=
  .seq (.region 0 [.mk4 0 (some 12) (.mv (.t 0)) none,
    .mk4 1 (some 13) (.mv (.t 1)) none,
    .mk4 2 (some 14) (.call 47 [(.t 12), (.t 13)]) none,
    .mk4 3 (some 11) (.mv (.t 14)) none,
    .mk4 4 (some 15) (.extract (.t 11) 0) none,
    .mk4 5 (some 16) (.extract (.t 11) 1) none,
    .mk4 6 (some 17) (.extract (.t 11) 2) none,
    .mk4 7 (some 5) (.alloc 3 [.bool false, .i 0, .i 0]) none,
    .mk4 8 none (.store 3 (.t 5) (.t 15)) none,
    .mk4 9 (some 6) (.mv (.t 16)) none,
    .mk4 10 (some 7) (.mv (.t 17)) none] [4, 5, 6, 7]) (c27_7)
def c27 : AFn := ⟨2, 110, [.cellN 4 7],
  (.seq (.region 0 [.mk4 0 (some 4) (.alloc 7 [.bool false, .bool false, .bool false, .bool false, .bool false, .int .u64 0, .int .u64 0]) none] [0, 1, 4]) (c27_8))⟩
def c28_0 : AC :=
  .seq (.region 0 [.mk4 0 (some 45) (.mv (.t 6)) none,
    .mk4 1 (some 46) (.lenL (.t 45)) none,
    .mk4 2 (some 47) (.bin .gtr (.t 46) (.c (.i 0))) none] [6, 9, 10, 47]) (.cond (.t 47) (.seq (.region 0 [.mk4 0 (some 48) (.mv (.t 6)) none,
    .mk4 1 (some 6) (.mv (.t 48)) none,
    .mk4 2 (some 7) (.mv (.c (.bool false))) none,
    .mk4 3 (some 8) (.mv (.c (.i 0))) none] [6, 7, 8]) (.ret)) (.skip))
def c28_1 : AC :=
  .seq (.seq (.region 0 [.mk4 0 (some 49) (.mv (.t 10)) none,
    .mk4 1 (some 50) (.faddr 2 (.t 9)) none,
    .mk4 2 (some 51) (.load1 (.t 50)) none,
    .mk4 3 (some 52) (.call 49 [(.t 49), (.t 51)]) none] [52]) (.cond (.t 52) (.seq (.region 0 [.mk4 0 (some 6) (.mv (.c (.nils))) none,
    .mk4 1 (some 7) (.mv (.c (.bool true))) none,
    .mk4 2 (some 8) (.mv (.c (.i 0))) none] [6, 7, 8]) (.ret)) (.skip))) (.seq (.region 0 [.mk4 0 (some 6) (.mv (.c (.nils))) none,
    .mk4 1 (some 7) (.mv (.c (.bool false))) none,
    .mk4 2 (some 8) (.mv (.c (.i 113))) none] [6, 7, 8]) (.ret))
def c28_2 : AC :=
  .seq (.region 0 [.mk4 0 (some 36) (.mv (.t 10)) none,
    .mk4 1 (some 37) (.nilck (.t 36)) none,
    .mk4 2 (some 38) (.faddr 14 (.t 37)) none,
    .mk4 3 (some 39) (.load1 (.t 38)) none,
    .mk4 4 (some 35) (.mv (.t 39)) none] [2, 9, 10, 35]) (.cond (.t 35) (.seq (.region 0 [.mk4 0 (some 6) (.mv (.c (.nils))) none,
    .mk4 1 (some 7) (.mv (.c (.bool false))) none,
    .mk4 2 (some 8) (.mv (.c (.i 115))) none] [6, 7, 8]) (.ret)) (.skip))
def c28_3 : AC :=
  .seq (.region 0 [.mk4 0 (some 33) (.mv (.t 2)) none,
    .mk4 1 (some 34) (.bin .lss (.t 33) (.c (.i 1))) none,
    .mk4 2 (some 32) (.mv (.t 34)) none] [2, 9, 10, 32]) (.cond (.t 32) (.seq (.region 0 [.mk4 0 (some 6) (.mv (.c (.nils))) none,
    .mk4 1 (some 7) (.mv (.c (.bool false))) none,
    .mk4 2 (some 8) (.mv (.c (.i 2))) none] [6, 7, 8]) (.ret)) (c28_2))
def c28_4 : AC :=
  .seq (.region 0 [.mk4 0 (some 23) (.mv (.t 10)) none,
    .mk4 1 (some 24) (.faddr 2 (.t 9)) none,
    .mk4 2 (some 25) (.load1 (.t 24)) none,
    .mk4 3 (some 26) (.nilck (.t 23)) none,
    .mk4 4 (some 27) (.faddr 0 (.t 26)) none,
    .mk4 5 (some 28) (.ixaA 2 7 (.t 27) (.t 25)) none,
    .mk4 6 (some 29) (.faddr 2 (.t 28)) none,
    .mk4 7 (some 30) (.load1 (.t 29)) none,
    .mk4 8 (some 31) (.eq .ptr false (.t 30) (.c (.ptr none))) none,
    .mk4 9 (some 22) (.mv (.t 31)) none] [2, 9, 10, 22]) (.cond (.t 22) (.seq (.region 0 [.mk4 0 (some 6) (.mv (.c (.nils))) none,
    .mk4 1 (some 7) (.mv (.c (.bool false))) none,
    .mk4 2 (some 8) (.mv (.c (.i 111))) none] [6, 7, 8]) (.ret)) (c28_3))
def c28_5 : AC :=
  .seq (.region 0 [.mk4 0 (some 19) (.mv (.t 8)) none,
    .mk4 1 (some 20) (.bin .neq (.t 19) (.c (.i 0))) none,
    .mk4 2 (some 18) (.mv (.t 20)) none] [2, 8, 9, 10, 18]) (.cond (.t 18) (.seq (.region 0 [.mk4 0 (some 21) (.mv (.t 8)) none,
    .mk4 1 (some 6) (.mv (.c (.nils))) none,
    .mk4 2 (some 7) (.mv (.c (.bool false))) none,
    .mk4 3 (some 8) (.mv (.t 21)) none] [6, 7, 8]) (.ret)) (c28_4))
def c28_6 : AC :=
  .seq (.seq (.region 0 [.mk4 0 (some 40) (.mv (.t 10)) none,
    .mk4 1 (some 41) (.faddr 2 (.t 9)) none,
    .mk4 2 (some 42) (.load1 (.t 41)) none,
    .mk4 3 (some 43) (.mv (.t 2)) none,
    .mk4 4 (some 44) (.call 51 [(.t 40), (.t 42), (.t 43)]) none,
    .mk4 5 (some 6) (.mv (.t 44)) none] [6, 9, 10]) (c28_0)) (c28_1)
def c28_7 : AC :=
  .seq (.region 0 [.mk4 0 (some 12) (.mv (.t 0)) none,
    .mk4 1 (some 13) (.mv (.t 1)) none,
    .mk4 2 (some 14) (.call 47 [(.t 12), (.t 13)]) none,
    .mk4 3 (some 11) (.mv (.t 14)) none,
    .mk4 4 (some 15) (.extract (.t 11) 0) none,
    .mk4 5 (some 16) (.extract (.t 11) 1) none,
    .mk4 6 (some 17) (.extract (.t 11) 2) none,
    .mk4 7 (some 9) (.alloc 3 [.bool false, .i 0, .i 0]) none,
    .mk4 8 none (.store 3 (.t 9) (.t 15)) none,
    .mk4 9 (some 10) (.mv (.t 16)) none,
    .mk4 10 (some 8) (.mv (.t 17)) none] [2, 8, 9, 10]) (.seq (.block 0 (c28_5)) (c28_6))
def c28 : AFn := ⟨3, 53, [.tmp 6, .tmp 7, .tmp 8],
  (.seq (.region 0 [.mk4 0 (some 6) (.mv (.c (.nils))) none,
    .mk4 1 (some 7) (.mv (.c (.bool false))) none,
    .mk4 2 (some 8) (.mv (.c (.i 0))) none] [0, 1, 2]) (c28_7))⟩
def c29_0 : AC :=
  .seq (.region 0 [.mk4 0 (some 3) (.mv (.t 0)) none,
    .mk4 1 (some 4) (.eq .ptr false (.t 3) (.c (.ptr none))) none,
    .mk4 2 (some 5) (.mv (.t 4)) none,
    .mk4 3 (some 6) (.mv (.t 0)) (some (5, false)),
    .mk4 4 (some 7) (.nilck (.t 6)) (some (5, false)),
    .mk4 5 (some 8) (.faddr 289 (.t 7)) (some (5, false)),
    .mk4 6 (some 9) (.load1 (.t 8)) (some (5, false)),
    .mk4 7 (some 10) (.eq .ptr false (.t 9) (.c (.ptr none))) (some (5, false)),
    .mk4 8 (some 11) (.pick (.t 5) (.c (.bool true)) (.t 10)) none,
    .mk4 9 (some 2) (.mv (.t 11)) none] [2]) (.ret)
def c29 : AFn := ⟨1, 12, [.tmp 2],
  (.seq (.region 0 [.mk4 0 (some 2) (.mv (.c (.bool false))) none] [0]) (c29_0))⟩
def c30 : AFn := ⟨2, 8, [.tmp 4],
  (.seq (.region 0 [.mk4 0 (some 4) (.mv (.c (.str []))) none] [0, 1]) (.seq (.region 0 [.mk4 0 (some 5) (.mv (.t 0)) none,
    .mk4 1 (some 6) (.mv (.t 1)) none,
    .mk4 2 (some 7) (.call 52 [(.t 5), (.t 6)]) none,
    .mk4 3 (some 4) (.mv (.t 7)) none] [4]) (.ret)))⟩
def c31 : AFn := ⟨1, 5, [.tmp 2],
  (.seq (.region 0 [.mk4 0 (some 2) (.mv (.c (.str []))) none] [0]) (.seq (.region 0 [.mk4 0 (some 3) (.mv (.t 0)) none,
    .mk4 1 (some 4) (.call 53 [(.t 3)]) none,
    .mk4 2 (some 2) (.mv (.t 4)) none] [2]) (.ret)))⟩
def c32_0 : AC :=
  .seq (.region 1 [.mk4 0 (some 21) (.mv (.t 3)) none,
    .mk4 1 (some 22) (.faddr 2 (.t 1)) none,
    .mk4 2 (some 23) (.load1 (.t 22)) none,
    .mk4 3 (some 24) (.faddr 2 (.t 1)) none,
    .mk4 4 (some 25) (.load1 (.t 24)) none,
    .mk4 9 (some 30) (.faddr 2 (.t 1)) none,
    .mk4 10 (some 31) (.load1 (.t 30)) none,
    .mk4 12 (some 33) (.faddr 2 (.t 1)) none,
    .mk4 13 (some 34) (.load1 (.t 33)) none,
    ⟨5, (some 26), .call 48 [(.t 25)], none, none, [(23, .load1 (.t 22), none), (31, .load1 (.t 30), none), (34, .load1 (.t 33), none)]⟩,
    ⟨6, (some 27), .call 55 [(.t 23), (.t 26)], none, none, [(31, .load1 (.t 30), none), (34, .load1 (.t 33), none)]⟩,
    ⟨7, (some 28), .call 54 [(.t 27)], none, none, [(31, .load1 (.t 30), none), (34, .load1 (.t 33), none)]⟩,
    .mk4 8 (some 29) (.bin .add (.t 28) (.c (.str [47]))) none,
    ⟨11, (some 32), .call 48 [(.t 31)], none, none, [(34, .load1 (.t 33), none)]⟩,
    .mk4 14 (some 35) (.call 50 [(.t 34)]) none,
    .mk4 15 (some 36) (.bin .add (.t 32) (.t 35)) none,
    .mk4 16 (some 37) (.call 31 [(.t 36)]) none,
    .mk4 17 (some 38) (.bin .add (.t 29) (.t 37)) none,
    ⟨18, (some 39), .bslice 1 1 [.str []] [(0, (.t 38))], none, some 0, []⟩,
    .mk4 19 (some 40) (.append 1 16 (.t 21) (.t 39)) none,
    .mk4 20 (some 2) (.mv (.t 40)) none] [2]) (.ret)
def c32_1 : AC :=
  .seq (.seq (.region 0 [.mk4 0 (some 15) (.faddr 2 (.t 1)) none,
    .mk4 1 (some 16) (.load1 (.t 15)) none,
    .mk4 2 (some 17) (.eq .ptr false (.t 16) (.c (.ptr none))) none] [1, 3, 17]) (.cond (.t 17) (.seq (.region 0 [.mk4 0 (some 18) (.mv (.t 3)) none,
    .mk4 1 (some 19) (.bslice 1 1 [.str []] [(0, (.c (.str [45])))]) none,
    .mk4 2 (some 20) (.append 1 16 (.t 18) (.t 19)) none,
    .mk4 3 (some 2) (.mv (.t 20)) none] [2]) (.ret)) (.skip))) (c32_0)
def c32_2 : AC :=
  .seq (.seq (.region 0 [.mk4 0 (some 10) (.faddr 4 (.t 1)) none,
    .mk4 1 (some 11) (.load1 (.t 10)) none] [1, 3, 11]) (.cond (.t 11) (.region 0 [.mk4 0 (some 12) (.mv (.t 3)) none,
    .mk4 1 (some 13) (.bslice 1 1 [.str []] [(0, (.c (.str [115, 104, 117, 116])))]) none,
    .mk4 2 (some 14) (.append 1 16 (.t 12) (.t 13)) none,
    .mk4 3 (some 3) (.mv (.t 14)) none] [1, 3]) (.skip))) (c32_1)
def c32_3 : AC :=
  .seq (.region 0 [.mk4 0 (some 4) (.bslice 1 4 [.str [], .str [], .str [], .str []] [(0, (.c (.str [110, 111, 110, 101]))), (1, (.c (.str [105, 110]))), (2, (.c (.str [111, 117, 116]))), (3, (.c (.str [99, 108, 111, 115, 101, 100])))]) none,
    .mk4 1 (some 5) (.faddr 0 (.t 1)) none,
    .mk4 2 (some 6) (.load1 (.t 5)) none,
    .mk4 3 (some 7) (.ixaS 1 (.t 4) (.t 6)) none,
    .mk4 4 (some 8) (.load1 (.t 7)) none,
    .mk4 5 (some 9) (.bslice 1 1 [.str []] [(0, (.t 8))]) none,
    .mk4 6 (some 3) (.mv (.t 9)) none] [1, 3]) (c32_2)
def c32 : AFn := ⟨1, 41, [.tmp 2],
  (.seq (.region 0 [.mk4 0 (some 1) (.box 7 (.t 0)) none,
    .mk4 1 (some 2) (.mv (.c (.nils))) none] [1]) (c32_3))⟩
def c33_0 : AC :=
  .seq (.region 0 [.mk4 0 (some 67) (.ixaS 1 (.t 63) (.t 65)) none,
    .mk4 1 (some 68) (.load1 (.t 67)) none,
    .mk4 2 (some 10) (.mv (.t 68)) none] [1, 8, 10, 63, 64, 65]) (.seq (.region 0 [.mk4 0 (some 69) (.mv (.t 1)) none,
    .mk4 1 (some 70) (.call 57 [(.t 8), (.t 69)]) none] [1, 8, 10, 63, 64, 65]) (.region 0 [.mk4 0 (some 71) (.mv (.t 10)) none,
    .mk4 1 (some 72) (.call 57 [(.t 8), (.t 71)]) none] [1, 8, 63, 64, 65]))
def c33_1 : AC :=
  .loop [1, 8, 63, 64, 65] (.seq (.region 0 [.mk4 0 (some 66) (.bin .lss (.t 65) (.t 64)) none] [1, 8, 63, 64, 65, 66]) (.seq (.cond (.t 66) (.skip) (.exit 3)) (.seq (.block 4 (c33_0)) (.region 0 [.mk4 0 (some 73) (.bin .add (.t 65) (.c (.i 1))) none,
    .mk4 1 (some 65) (.mv (.t 73)) none] [1, 8, 63, 64, 65]))))
def c33_2 : AC :=
  .seq (.seq (.region 0 [.mk4 0 (some 62) (.mv (.t 0)) none,
    .mk4 1 (some 63) (.slice 1 (.t 62) (some (.c (.i 1))) none none) none,
    .mk4 2 (some 64) (.lenL (.t 63)) none,
    .mk4 3 (some 65) (.mv (.c (.i 0))) none] [1, 8, 63, 64, 65]) (.block 3 (c33_1))) (.seq (.region 0 [.mk4 0 (some 74) (.call 58 [(.t 8)]) none,
    .mk4 1 (some 4) (.mv (.t 74)) none] [4]) (.ret))
def c33_3 : AC :=
  .seq (.region 0 [.mk4 0 (some 56) (.mv (.t 5)) none,
    .mk4 1 (some 57) (.call 56 [(.t 8), (.t 56)]) none] [0, 1, 8]) (.seq (.region 0 [.mk4 0 (some 58) (.mv (.t 0)) none,
    .mk4 1 (some 59) (.ixaS 1 (.t 58) (.c (.i 0))) none,
    .mk4 2 (some 60) (.load1 (.t 59)) none,
    .mk4 3 (some 61) (.call 57 [(.t 8), (.t 60)]) none] [0, 1, 8]) (c33_2))
def c33_4 : AC :=
  .cond (.t 49) (.region 0 [.mk4 0 (some 50) (.mkIface 9 (.c (.str [115, 116, 114, 105, 110, 103, 115, 58, 32, 74, 111, 105, 110, 32, 111, 117, 116, 112, 117, 116, 32, 108, 101, 110, 103, 116, 104, 32, 111, 118, 101, 114, 102, 108, 111, 119]))) none,
    .mk4 1 none (.fail) none] [0, 1, 5, 7, 39, 40, 41]) (.skip)
def c33_5 : AC :=
  .seq (.seq (.region 0 [.mk4 0 (some 45) (.mv (.t 7)) none,
    .mk4 1 (some 46) (.lenS (.t 45)) none,
    .mk4 2 (some 47) (.mv (.t 5)) none,
    .mk4 3 (some 48) (.bin .sub (.c (.i 9223372036854775807)) (.t 47)) none,
    .mk4 4 (some 49) (.bin .gtr (.t 46) (.t 48)) none] [0, 1, 5, 7, 39, 40, 41, 49]) (c33_4)) (.region 0 [.mk4 0 (some 51) (.mv (.t 5)) none,
    .mk4 1 (some 52) (.mv (.t 7)) none,
    .mk4 2 (some 53) (.lenS (.t 52)) none,
    .mk4 3 (some 54) (.bin .add (.t 51) (.t 53)) none,
    .mk4 4 (some 5) (.mv (.t 54)) none] [0, 1, 5, 39, 40, 41])
def c33_6 : AC :=
  .seq (.block 2 (.seq (.region 0 [.mk4 0 (some 43) (.ixaS 1 (.t 39) (.t 41)) none,
    .mk4 1 (some 44) (.load1 (.t 43)) none,
    .mk4 2 (some 7) (.mv (.t 44)) none] [0, 1, 5, 7, 39, 40, 41]) (c33_5))) (.region 0 [.mk4 0 (some 55) (.bin .add (.t 41) (.c (.i 1))) none,
    .mk4 1 (some 41) (.mv (.t 55)) none] [0, 1, 5, 39, 40, 41])
def c33_7 : AC :=
  .region 0 [.mk4 0 (some 31) (.mv (.t 5)) none,
    .mk4 1 (some 32) (.mv (.t 1)) none,
    .mk4 2 (some 33) (.lenS (.t 32)) none,
    .mk4 3 (some 34) (.mv (.t 0)) none,
    .mk4 4 (some 35) (.lenL (.t 34)) none,
    .mk4 5 (some 36) (.bin .sub (.t 35) (.c (.i 1))) none,
    .mk4 6 (some 37) (.bin .mul (.t 33) (.t 36)) none,
    .mk4 7 (some 38) (.bin .add (.t 31) (.t 37)) none,
    .mk4 8 (some 5) (.mv (.t 38)) none] [0, 1, 5]
def c33_8 : AC :=
  .seq (.seq (.region 0 [.mk4 0 (some 23) (.mv (.t 1)) none,
    .mk4 1 (some 24) (.lenS (.t 23)) none,
    .mk4 2 (some 25) (.mv (.t 0)) none,
    .mk4 3 (some 26) (.lenL (.t 25)) none,
    .mk4 4 (some 27) (.bin .sub (.t 26) (.c (.i 1))) none,
    .mk4 5 (some 28) (.bin .quo (.c (.i 9223372036854775807)) (.t 27)) none,
    .mk4 6 (some 29) (.bin .geq (.t 24) (.t 28)) none] [0, 1, 5, 29]) (.cond (.t 29) (.region 0 [.mk4 0 (some 30) (.mkIface 9 (.c (.str [115, 116, 114, 105, 110, 103, 115, 58, 32, 74, 111, 105, 110, 32, 111, 117, 116, 112, 117, 116, 32, 108, 101, 110, 103, 116, 104, 32, 111, 118, 101, 114, 102, 108, 111, 119]))) none,
    .mk4 1 none (.fail) none] [0, 1, 5]) (.skip))) (c33_7)
def c33_9 : AC :=
  .seq (.seq (.region 0 [.mk4 0 (some 39) (.mv (.t 0)) none,
    .mk4 1 (some 40) (.lenL (.t 39)) none,
    .mk4 2 (some 41) (.mv (.c (.i 0))) none] [0, 1, 5, 39, 40, 41]) (.block 1 (.loop [0, 1, 5, 39, 40, 41] (.seq (.region 0 [.mk4 0 (some 42) (.bin .lss (.t 41) (.t 40)) none] [0, 1, 5, 39, 40, 41, 42]) (.seq (.cond (.t 42) (.skip) (.exit 1)) (c33_6)))))) (.seq (.region 0 [.mk4 0 (some 8) (.alloc 2 [.ptr none, .nils]) none] [0, 1, 5, 8]) (c33_3))
def c33_10 : AC :=
  .seq (.region 0 [.mk4 0 (some 16) (.bin .eql (.t 12) (.c (.i 1))) none,
    .mk4 1 (some 15) (.mv (.t 16)) none] [0, 1, 15]) (.cond (.t 15) (.seq (.region 0 [.mk4 0 (some 17) (.mv (.t 0)) none,
    .mk4 1 (some 18) (.ixaS 1 (.t 17) (.c (.i 0))) none,
    .mk4 2 (some 19) (.load1 (.t 18)) none,
    .mk4 3 (some 4) (.mv (.t 19)) none] [4]) (.ret)) (.skip))
def c33_11 : AC :=
  .seq (.seq (.region 0 [.mk4 0 (some 11) (.mv (.t 0)) none,
    .mk4 1 (some 12) (.lenL (.t 11)) none] [0, 1, 12]) (.block 0 (.seq (.region 0 [.mk4 0 (some 14) (.bin .eql (.t 12) (.c (.i 0))) none,
    .mk4 1 (some 13) (.mv (.t 14)) none] [0, 1, 12, 13]) (.cond (.t 13) (.seq (.region 0 [.mk4 0 (some 4) (.mv (.c (.str []))) none] [4]) (.ret)) (c33_10))))) (.seq (.region 0 [.mk4 0 (some 5) (.mv (.c (.i 0))) none] [0, 1, 5]) (.seq (.seq (.region 0 [.mk4 0 (some 20) (.mv (.t 1)) none,
    .mk4 1 (some 21) (.lenS (.t 20)) none,
    .mk4 2 (some 22) (.bin .gtr (.t 21) (.c (.i 0))) none] [0, 1, 5, 22]) (.cond (.t 22) (c33_8) (.skip))) (c33_9)))
def c33 : AFn := ⟨2, 75, [.tmp 4],
  (.seq (.region 0 [.mk4 0 (some 4) (.mv (.c (.str []))) none] [0, 1]) (c33_11))⟩
def c34_0 : AC :=
  .seq (.region 0 [.mk4 0 (some 5) (.mv (.t 0)) none,
    .mk4 1 (some 6) (.mv (.t 1)) none,
    .mk4 2 (some 7) (.call 59 [(.t 5), (.t 6)]) none,
    .mk4 3 (some 8) (.bin .eql (.t 7) (.c (.i 0))) none,
    .mk4 4 (some 9) (.mv (.t 8)) none,
    .mk4 5 (some 10) (.mv (.t 0)) (some (9, true)),
    .mk4 6 (some 11) (.mv (.t 1)) (some (9, true)),
    .mk4 7 (some 12) (.nilck (.t 10)) (some (9, true)),
    .mk4 8 (some 13) (.faddr 0 (.t 12)) (some (9, true)),
    .mk4 9 (some 14) (.ixaA 32 1 (.t 13) (.t 11)) (some (9, true)),
    .mk4 10 (some 15) (.load1 (.t 14)) (some (9, true)),
    .mk4 11 (some 16) (.pick (.t 9) (.t 15) (.c (.bool false))) none,
    .mk4 12 (some 4) (.mv (.t 16)) none] [4]) (.ret)
def c34 : AFn := ⟨2, 17, [.tmp 4],
  (.seq (.region 0 [.mk4 0 (some 4) (.mv (.c (.bool false))) none] [0, 1]) (c34_0))⟩
def c35_0 : AC :=
  .seq (.region 0 [.mk4 0 (some 9) (.mv (.t 0)) none,
    .mk4 1 (some 10) (.mv (.t 1)) none,
    .mk4 2 (some 11) (.nilck (.t 9)) none,
    .mk4 3 (some 12) (.faddr 32 (.t 11)) none,
    .mk4 4 (some 13) (.ixaA 32 1 (.t 12) (.t 10)) none,
    .mk4 5 (some 14) (.load1 (.t 13)) none,
    .mk4 6 (some 4) (.mv (.t 14)) none] [4]) (.ret)
def c35_1 : AC :=
  .seq (.seq (.region 0 [.mk4 0 (some 5) (.mv (.t 0)) none,
    .mk4 1 (some 6) (.mv (.t 1)) none,
    .mk4 2 (some 7) (.call 59 [(.t 5), (.t 6)]) none,
    .mk4 3 (some 8) (.bin .neq (.t 7) (.c (.i 0))) none] [0, 1, 8]) (.cond (.t 8) (.seq (.region 0 [.mk4 0 (some 4) (.mv (.c (.i 0))) none] [4]) (.ret)) (.skip))) (c35_0)
def c35 : AFn := ⟨2, 15, [.tmp 4],
  (.seq (.region 0 [.mk4 0 (some 4) (.mv (.c (.i 0))) none] [0, 1]) (c35_1))⟩
def c43_0 : AC :=
  .region 0 [.mk4 0 (some 21) (.mv (.t 3)) none,
    .mk4 1 (some 22) (.mv (.t 4)) none,
    .mk4 2 (some 23) (.nilck (.t 21)) none,
    .mk4 3 (some 24) (.faddr 0 (.t 23)) none,
    .mk4 4 (some 25) (.ixaA 2 7 (.t 24) (.t 22)) none,
    .mk4 5 (some 26) (.faddr 3 (.t 25)) none,
    .mk4 6 none (.store 1 (.t 26) (.c (.bool true))) none] [0, 3, 7]
def c43_1 : AC :=
  .seq (.region 0 [.mk4 0 (some 11) (.mv (.t 3)) none,
    .mk4 1 (some 12) (.mv (.t 4)) none,
    .mk4 2 (some 13) (.mv (.t 0)) none,
    .mk4 7 (some 17) (.nilck (.t 11)) none,
    .mk4 8 (some 18) (.faddr 0 (.t 17)) none,
    .mk4 3 (some 14) (.call 61 [(.t 13)]) none,
    .mk4 4 (some 10) (.mv (.t 14)) none,
    .mk4 5 (some 15) (.extract (.t 10) 0) none,
    .mk4 6 (some 16) (.extract (.t 10) 1) none,
    .mk4 9 (some 19) (.ixaA 2 7 (.t 18) (.t 12)) none,
    .mk4 10 (some 20) (.faddr 2 (.t 19)) none,
    .mk4 11 none (.store 1 (.t 20) (.t 15)) none] [0, 3, 4, 7]) (c43_0)
def c43_2 : AC :=
  .seq (.region 0 [.mk4 0 (some 8) (.bin .lss (.t 7) (.c (.i 2))) none] [0, 3, 7, 8]) (.seq (.cond (.t 8) (.skip) (.exit 0)) (.seq (.block 1 (.seq (.region 0 [.mk4 0 (some 9) (.mv (.t 7)) none,
    .mk4 1 (some 4) (.mv (.t 9)) none] [0, 3, 4, 7]) (c43_1))) (.region 0 [.mk4 0 (some 27) (.bin .add (.t 7) (.c (.i 1))) none,
    .mk4 1 (some 7) (.mv (.t 27)) none] [0, 3, 7])))
def c43_3 : AC :=
  .seq (.region 0 [.mk4 0 (some 5) (.build [.i 0, .i 0, .ptr none, .bool false, .bool false, .int .u64 0, .int .u64 0, .i 0, .i 0, .ptr none, .bool false, .bool false, .int .u64 0, .int .u64 0, .bool false, .i 0, .nils] []) none,
    .mk4 1 (some 6) (.box 17 (.t 5)) none,
    .mk4 2 (some 3) (.mv (.t 6)) none] [0, 3]) (.seq (.seq (.region 0 [.mk4 0 (some 7) (.mv (.c (.i 0))) none] [0, 3, 7]) (.block 0 (.loop [0, 3, 7] (c43_2)))) (.seq (.region 0 [.mk4 0 (some 28) (.mv (.t 3)) none,
    .mk4 1 (some 2) (.mv (.t 28)) none] [2]) (.ret)))
def c43 : AFn := ⟨1, 29, [.tmp 2],
  (.seq (.region 0 [.mk4 0 (some 2) (.mv (.c (.ptr none))) none] [0]) (c43_3))⟩
def c44_0 : AC :=
  .seq (.region 0 [.mk4 0 (some 27) (.mv (.t 0)) none,
    .mk4 1 (some 28) (.mv (.t 3)) none,
    .mk4 2 (some 29) (.mv (.t 10)) none,
    .mk4 3 (some 30) (.call 64 [(.t 27), (.t 28), (.t 29)]) none] [10]) (.seq (.region 0 [.mk4 0 (some 31) (.mv (.t 10)) none,
    .mk4 1 (some 8) (.mv (.t 31)) none,
    .mk4 2 (some 9) (.mv (.c (.i 0))) none] [8, 9]) (.ret))
def c44_1 : AC :=
  .seq (.region 0 [.mk4 0 (some 16) (.mv (.t 1)) none,
    .mk4 1 (some 17) (.call 62 [(.t 16)]) none,
    .mk4 2 (some 18) (.un .not (.t 17)) none,
    .mk4 3 (some 15) (.mv (.t 18)) none] [0, 2, 3, 15]) (.cond (.t 15) (.seq (.region 0 [.mk4 0 (some 8) (.mv (.c (.nils))) none,
    .mk4 1 (some 9) (.mv (.c (.i 2))) none] [8, 9]) (.ret)) (.skip))
def c44_2 : AC :=
  .seq (.region 0 [.mk4 0 (some 13) (.mv (.t 0)) none,
    .mk4 1 (some 14) (.call 29 [(.t 13)]) none,
    .mk4 2 (some 12) (.mv (.t 14)) none] [0, 1, 2, 3, 12]) (.cond (.t 12) (.seq (.region 0 [.mk4 0 (some 8) (.mv (.c (.nils))) none,
    .mk4 1 (some 9) (.mv (.c (.i 1))) none] [8, 9]) (.ret)) (c44_1))
def c44_3 : AC :=
  .seq (.region 0 [.mk4 0 (some 20) (.mv (.t 0)) none,
    .mk4 1 (some 21) (.mv (.t 2)) none,
    .mk4 2 (some 22) (.call 63 [(.t 20), (.t 21)]) none,
    .mk4 3 (some 19) (.mv (.t 22)) none,
    .mk4 4 (some 23) (.extract (.t 19) 0) none,
    .mk4 5 (some 24) (.extract (.t 19) 1) none,
    .mk4 6 (some 10) (.mv (.t 23)) none,
    .mk4 7 (some 11) (.mv (.t 24)) none] [0, 3, 10, 11]) (.seq (.seq (.region 0 [.mk4 0 (some 25) (.mv (.t 11)) none,
    .mk4 1 (some 26) (.un .not (.t 25)) none] [0, 3, 10, 26]) (.cond (.t 26) (.seq (.region 0 [.mk4 0 (some 8) (.mv (.c (.nils))) none,
    .mk4 1 (some 9) (.mv (.c (.i 112))) none] [8, 9]) (.ret)) (.skip))) (c44_0))
def c44 : AFn := ⟨4, 32, [.tmp 8, .tmp 9],
  (.seq (.region 0 [.mk4 0 (some 8) (.mv (.c (.nils))) none,
    .mk4 1 (some 9) (.mv (.c (.i 0))) none] [0, 1, 2, 3]) (.seq (.block 0 (c44_2)) (c44_3)))⟩
def c45_0 : AC :=
  .seq (.region 0 [.mk4 0 (some 10) (.mv (.t 1)) none,
    .mk4 1 (some 11) (.bin .lss (.t 10) (.c (.i 0))) none,
    .mk4 2 (some 12) (.mv (.t 11)) none,
    .mk4 3 (some 13) (.mv (.t 1)) (some (12, false)),
    .mk4 4 (some 14) (.mv (.t 0)) (some (12, false)),
    .mk4 5 (some 15) (.nilck (.t 14)) (some (12, false)),
    .mk4 6 (some 16) (.faddr 288 (.t 15)) (some (12, false)),
    .mk4 7 (some 17) (.load1 (.t 16)) (some (12, false)),
    .mk4 8 (some 18) (.lenL (.t 17)) (some (12, false)),
    .mk4 9 (some 19) (.bin .geq (.t 13) (.t 18)) (some (12, false)),
    .mk4 10 (some 20) (.pick (.t 12) (.c (.bool true)) (.t 19)) none,
    .mk4 11 (some 21) (.mv (.t 20)) none,
    .mk4 12 (some 22) (.mv (.t 0)) (some (21, false)),
    .mk4 13 (some 23) (.nilck (.t 22)) (some (21, false)),
    .mk4 14 (some 24) (.faddr 288 (.t 23)) (some (21, false)),
    .mk4 15 (some 25) (.load1 (.t 24)) (some (21, false)),
    .mk4 16 (some 26) (.mv (.t 1)) (some (21, false)),
    .mk4 17 (some 27) (.ixaS 1 (.t 25) (.t 26)) (some (21, false)),
    .mk4 18 (some 28) (.load1 (.t 27)) (some (21, false)),
    .mk4 19 (some 29) (.nilck (.t 28)) (some (21, false)),
    .mk4 20 (some 30) (.faddr 0 (.t 29)) (some (21, false)),
    .mk4 21 (some 31) (.ixaA 2 7 (.t 30) (.c (.i 1))) (some (21, false)),
    .mk4 22 (some 32) (.faddr 0 (.t 31)) (some (21, false)),
    .mk4 23 (some 33) (.load1 (.t 32)) (some (21, false)),
    .mk4 24 (some 34) (.bin .neq (.t 33) (.c (.i 2))) (some (21, false)),
    .mk4 25 (some 35) (.pick (.t 21) (.c (.bool true)) (.t 34)) none,
    .mk4 26 (some 9) (.mv (.t 35)) none] [0, 1, 9]) (.cond (.t 9) (.seq (.region 0 [.mk4 0 (some 4) (.mv (.c (.ptr none))) none,
    .mk4 1 (some 5) (.mv (.c (.i 116))) none] [4, 5]) (.ret)) (.skip))
def c45_1 : AC :=
  .seq (.region 0 [.mk4 0 (some 36) (.mv (.t 0)) none,
    .mk4 1 (some 37) (.nilck (.t 36)) none,
    .mk4 2 (some 38) (.faddr 288 (.t 37)) none,
    .mk4 3 (some 39) (.load1 (.t 38)) none,
    .mk4 4 (some 40) (.mv (.t 1)) none,
    .mk4 5 (some 41) (.ixaS 1 (.t 39) (.t 40)) none,
    .mk4 6 (some 42) (.load1 (.t 41)) none,
    .mk4 7 (some 4) (.mv (.t 42)) none,
    .mk4 8 (some 5) (.mv (.c (.i 0))) none] [4, 5]) (.ret)
def c45_2 : AC :=
  .seq (.block 0 (.seq (.region 0 [.mk4 0 (some 7) (.mv (.t 0)) none,
    .mk4 1 (some 8) (.call 29 [(.t 7)]) none,
    .mk4 2 (some 6) (.mv (.t 8)) none] [0, 1, 6]) (.cond (.t 6) (.seq (.region 0 [.mk4 0 (some 4) (.mv (.c (.ptr none))) none,
    .mk4 1 (some 5) (.mv (.c (.i 1))) none] [4, 5]) (.ret)) (c45_0)))) (c45_1)
def c45 : AFn := ⟨2, 43, [.tmp 4, .tmp 5],
  (.seq (.region 0 [.mk4 0 (some 4) (.mv (.c (.ptr none))) none,
    .mk4 1 (some 5) (.mv (.c (.i 0))) none] [0, 1]) (c45_2))⟩
def c46_0 : AC :=
  .seq (.region 0 [.mk4 0 (some 18) (.mv (.t 0)) none,
    .mk4 1 (some 19) (.mv (.t 1)) none,
    .mk4 2 (some 20) (.bin .sub (.c (.i 1)) (.t 19)) none,
    .mk4 3 (some 21) (.mv (.t 7)) none,
    .mk4 4 (some 22) (.bin .gtr (.t 21) (.c (.i 0))) none,
    .mk4 5 (some 23) (.call 66 [(.t 18), (.t 20), (.t 22), (.c (.bool false))]) none] [7]) (.seq (.region 0 [.mk4 0 (some 24) (.mv (.t 7)) none,
    .mk4 1 (some 6) (.mv (.t 24)) none] [6]) (.ret))
def c46_1 : AC :=
  .seq (.region 0 [.mk4 0 (some 8) (.mv (.t 0)) none,
    .mk4 1 (some 9) (.mv (.t 1)) none,
    .mk4 2 (some 10) (.bin .sub (.c (.i 1)) (.t 9)) none,
    .mk4 3 (some 11) (.nilck (.t 8)) none,
    .mk4 4 (some 12) (.faddr 0 (.t 11)) none,
    .mk4 5 (some 13) (.ixaA 2 7 (.t 12) (.t 10)) none,
    .mk4 6 (some 14) (.faddr 2 (.t 13)) none,
    .mk4 7 (some 15) (.load1 (.t 14)) none,
    .mk4 8 (some 16) (.mv (.t 2)) none,
    .mk4 9 (some 17) (.call 65 [(.t 15), (.t 16)]) none,
    .mk4 10 (some 7) (.mv (.t 17)) none] [0, 1, 7]) (c46_0)
def c46 : AFn := ⟨3, 25, [.tmp 6],
  (.seq (.region 0 [.mk4 0 (some 6) (.mv (.c (.i 0))) none] [0, 1, 2]) (c46_1))⟩
def c47_0 : AC :=
  .seq (.region 0 [.mk4 0 (some 12) (.mv (.t 1)) none,
    .mk4 1 (some 13) (.bin .lss (.t 12) (.c (.i 0))) none,
    .mk4 2 (some 14) (.mv (.t 13)) none,
    .mk4 3 (some 15) (.mv (.t 1)) (some (14, false)),
    .mk4 4 (some 16) (.bin .gtr (.t 15) (.c (.i 95))) (some (14, false)),
    .mk4 5 (some 17) (.pick (.t 14) (.c (.bool true)) (.t 16)) none,
    .mk4 6 (some 18) (.mv (.t 17)) none,
    .mk4 7 (some 19) (.mv (.t 0)) (some (18, false)),
    .mk4 8 (some 20) (.mv (.t 1)) (some (18, false)),
    .mk4 9 (some 21) (.nilck (.t 19)) (some (18, false)),
    .mk4 10 (some 22) (.faddr 0 (.t 21)) (some (18, false)),
    .mk4 11 (some 23) (.ixaA 96 3 (.t 22) (.t 20)) (some (18, false)),
    .mk4 12 (some 24) (.faddr 0 (.t 23)) (some (18, false)),
    .mk4 13 (some 25) (.load1 (.t 24)) (some (18, false)),
    .mk4 14 (some 26) (.un .not (.t 25)) (some (18, false)),
    .mk4 15 (some 27) (.pick (.t 18) (.c (.bool true)) (.t 26)) none,
    .mk4 16 (some 11) (.mv (.t 27)) none] [0, 1, 4, 11]) (.cond (.t 11) (.seq (.region 0 [.mk4 0 (some 28) (.build [.bool false, .i 0, .i 0] []) none,
    .mk4 1 none (.store 3 (.t 4) (.t 28)) none,
    .mk4 2 (some 5) (.mv (.c (.ptr none))) none,
    .mk4 3 (some 6) (.mv (.c (.i 110))) none] [4, 5, 6]) (.ret)) (.skip))
def c47_1 : AC :=
  .seq (.region 0 [.mk4 0 (some 8) (.mv (.t 0)) none,
    .mk4 1 (some 9) (.call 29 [(.t 8)]) none,
    .mk4 2 (some 7) (.mv (.t 9)) none] [0, 1, 4, 7]) (.cond (.t 7) (.seq (.region 0 [.mk4 0 (some 10) (.build [.bool false, .i 0, .i 0] []) none,
    .mk4 1 none (.store 3 (.t 4) (.t 10)) none,
    .mk4 2 (some 5) (.mv (.c (.ptr none))) none,
    .mk4 3 (some 6) (.mv (.c (.i 1))) none] [4, 5, 6]) (.ret)) (c47_0))
def c47_2 : AC :=
  .seq (.region 0 [.mk4 0 (some 29) (.mv (.t 0)) none,
    .mk4 1 (some 30) (.mv (.t 1)) none,
    .mk4 2 (some 31) (.nilck (.t 29)) none,
    .mk4 3 (some 32) (.faddr 0 (.t 31)) none,
    .mk4 4 (some 33) (.ixaA 96 3 (.t 32) (.t 30)) none,
    .mk4 5 (some 34) (.loadN 3 (.t 33)) none,
    .mk4 6 (some 35) (.mv (.t 0)) none,
    .mk4 7 (some 36) (.nilck (.t 35)) none,
    .mk4 8 (some 37) (.faddr 288 (.t 36)) none,
    .mk4 9 (some 38) (.load1 (.t 37)) none,
    .mk4 10 (some 39) (.mv (.t 0)) none,
    .mk4 11 (some 40) (.mv (.t 1)) none,
    .mk4 12 (some 41) (.nilck (.t 39)) none,
    .mk4 13 (some 42) (.faddr 0 (.t 41)) none,
    .mk4 14 (some 43) (.ixaA 96 3 (.t 42) (.t 40)) none,
    .mk4 15 (some 44) (.faddr 1 (.t 43)) none,
    .mk4 16 (some 45) (.load1 (.t 44)) none,
    .mk4 17 (some 46) (.ixaS 1 (.t 38) (.t 45)) none,
    .mk4 18 (some 47) (.load1 (.t 46)) none,
    ⟨19, none, .store 3 (.t 4) (.t 34), none, none, [(38, .load1 (.t 37), none), (45, .load1 (.t 44), none), (47, .load1 (.t 46), none)]⟩,
    .mk4 20 (some 5) (.mv (.t 47)) none,
    .mk4 21 (some 6) (.mv (.c (.i 0))) none] [4, 5, 6]) (.ret)
def c47 : AFn := ⟨2, 48, [.cellN 4 3, .tmp 5, .tmp 6],
  (.seq (.region 0 [.mk4 0 (some 4) (.alloc 3 [.bool false, .i 0, .i 0]) none,
    .mk4 1 (some 5) (.mv (.c (.ptr none))) none,
    .mk4 2 (some 6) (.mv (.c (.i 0))) none] [0, 1, 4]) (.seq (.block 0 (c47_1)) (c47_2)))⟩
def c48_0 : AC :=
  .seq (.seq (.region 0 [.mk4 0 (some 3) (.mv (.t 0)) none,
    .mk4 1 (some 4) (.call 67 [(.t 3)]) none] [0, 4]) (.cond (.t 4) (.seq (.region 0 [.mk4 0 (some 2) (.mv (.c (.i 0))) none] [2]) (.ret)) (.skip))) (.seq (.region 0 [.mk4 0 (some 5) (.mv (.t 0)) none,
    .mk4 1 (some 6) (.nilck (.t 5)) none,
    .mk4 2 (some 7) (.faddr 2 (.t 6)) none,
    .mk4 3 (some 8) (.load1 (.t 7)) none,
    .mk4 4 (some 2) (.mv (.t 8)) none] [2]) (.ret))
def c48 : AFn := ⟨1, 9, [.tmp 2],
  (.seq (.region 0 [.mk4 0 (some 2) (.mv (.c (.i 0))) none] [0]) (c48_0))⟩
def c49_0 : AC :=
  .seq (.region 0 [.mk4 0 (some 5) (.mv (.t 0)) none,
    .mk4 1 (some 6) (.mv (.t 1)) none,
    .mk4 2 (some 7) (.bin .sub (.c (.i 1)) (.t 6)) none,
    .mk4 3 (some 8) (.nilck (.t 5)) none,
    .mk4 4 (some 9) (.faddr 0 (.t 8)) none,
    .mk4 5 (some 10) (.ixaA 2 7 (.t 9) (.t 7)) none,
    .mk4 6 (some 11) (.faddr 0 (.t 10)) none,
    .mk4 7 (some 12) (.load1 (.t 11)) none,
    .mk4 8 (some 13) (.bin .eql (.t 12) (.c (.i 3))) none,
    .mk4 9 (some 14) (.mv (.t 13)) none,
    .mk4 10 (some 15) (.mv (.t 0)) (some (14, false)),
    .mk4 11 (some 16) (.mv (.t 1)) (some (14, false)),
    .mk4 12 (some 17) (.bin .sub (.c (.i 1)) (.t 16)) (some (14, false)),
    .mk4 13 (some 18) (.nilck (.t 15)) (some (14, false)),
    .mk4 14 (some 19) (.faddr 0 (.t 18)) (some (14, false)),
    .mk4 15 (some 20) (.ixaA 2 7 (.t 19) (.t 17)) (some (14, false)),
    .mk4 16 (some 21) (.faddr 4 (.t 20)) (some (14, false)),
    .mk4 17 (some 22) (.load1 (.t 21)) (some (14, false)),
    .mk4 18 (some 23) (.pick (.t 14) (.c (.bool true)) (.t 22)) none,
    .mk4 19 (some 4) (.mv (.t 23)) none] [4]) (.ret)
def c49 : AFn := ⟨2, 24, [.tmp 4],
  (.seq (.region 0 [.mk4 0 (some 4) (.mv (.c (.bool false))) none] [0, 1]) (c49_0))⟩
def c50_0 : AC :=
  .seq (.region 0 [.mk4 0 (some 5) (.mv (.t 0)) none,
    .mk4 1 (some 6) (.nilck (.t 5)) none,
    .mk4 2 (some 7) (.faddr 0 (.t 6)) none,
    .mk4 3 (some 8) (.load1 (.t 7)) none,
    .mk4 4 (some 9) (.lenL (.t 8)) none,
    .mk4 5 (some 10) (.mv (.t 0)) none,
    .mk4 6 (some 11) (.nilck (.t 10)) none,
    .mk4 7 (some 12) (.faddr 2 (.t 11)) none,
    .mk4 8 (some 13) (.load1 (.t 12)) none,
    .mk4 9 (some 14) (.bin .sub (.t 9) (.t 13)) none,
    .mk4 10 (some 2) (.mv (.t 14)) none] [2]) (.ret)
def c50 : AFn := ⟨1, 15, [.tmp 2],
  (.seq (.region 0 [.mk4 0 (some 2) (.mv (.c (.i 0))) none] [0]) (.seq (.seq (.region 0 [.mk4 0 (some 3) (.mv (.t 0)) none,
    .mk4 1 (some 4) (.call 67 [(.t 3)]) none] [0, 4]) (.cond (.t 4) (.seq (.region 0 [.mk4 0 (some 2) (.mv (.c (.i 0))) none] [2]) (.ret)) (.skip))) (c50_0)))⟩
def c51_0 : AC :=
  .seq (.region 0 [.mk4 0 (some 17) (.mv (.t 0)) none,
    .mk4 1 (some 18) (.mv (.t 1)) none,
    .mk4 2 (some 19) (.bin .sub (.c (.i 1)) (.t 18)) none,
    .mk4 3 (some 20) (.mv (.t 7)) none,
    .mk4 4 (some 21) (.lenL (.t 20)) none,
    .mk4 5 (some 22) (.bin .gtr (.t 21) (.c (.i 0))) none,
    .mk4 6 (some 23) (.call 66 [(.t 17), (.t 19), (.c (.bool false)), (.t 22)]) none] [7]) (.seq (.region 0 [.mk4 0 (some 24) (.mv (.t 7)) none,
    .mk4 1 (some 6) (.mv (.t 24)) none] [6]) (.ret))
def c51_1 : AC :=
  .seq (.region 0 [.mk4 0 (some 8) (.mv (.t 0)) none,
    .mk4 1 (some 9) (.mv (.t 1)) none,
    .mk4 2 (some 10) (.nilck (.t 8)) none,
    .mk4 3 (some 11) (.faddr 0 (.t 10)) none,
    .mk4 4 (some 12) (.ixaA 2 7 (.t 11) (.t 9)) none,
    .mk4 5 (some 13) (.faddr 2 (.t 12)) none,
    .mk4 6 (some 14) (.load1 (.t 13)) none,
    .mk4 7 (some 15) (.mv (.t 2)) none,
    .mk4 8 (some 16) (.call 68 [(.t 14), (.t 15)]) none,
    .mk4 9 (some 7) (.mv (.t 16)) none] [0, 1, 7]) (c51_0)
def c51 : AFn := ⟨3, 25, [.tmp 6],
  (.seq (.region 0 [.mk4 0 (some 6) (.mv (.c (.nils))) none] [0, 1, 2]) (c51_1))⟩
def c52_0 : AC :=
  .seq (.region 0 [.mk4 0 (some 18) (.mv (.t 6)) none,
    .mk4 1 (some 19) (.sliceA 24 1 (.t 5) none (some (.t 18)) none) none,
    .mk4 2 (some 20) (.mv (.t 0)) none,
    .mk4 3 (some 21) (.call 71 [(.t 19), (.t 20)]) none] [5, 6]) (.seq (.region 0 [.mk4 0 (some 22) (.mv (.t 6)) none,
    .mk4 1 (some 23) (.sliceA 24 1 (.t 5) none (some (.t 22)) none) none,
    .mk4 2 (some 24) (.ofBytes (.t 23)) none,
    .mk4 3 (some 4) (.mv (.t 24)) none] [4]) (.ret))
def c52_1 : AC :=
  .seq (.seq (.region 0 [.mk4 0 (some 11) (.mv (.t 0)) none,
    .mk4 1 (some 12) (.bin .lss (.t 11) (.c (.int .u64 100))) none] [0, 12]) (.cond (.t 12) (.seq (.region 0 [.mk4 0 (some 13) (.mv (.t 0)) none,
    .mk4 1 (some 14) (.convInt .i64 (.t 13)) none,
    .mk4 2 (some 15) (.call 69 [(.t 14)]) none,
    .mk4 3 (some 4) (.mv (.t 15)) none] [4]) (.ret)) (.skip))) (.seq (.region 0 [.mk4 0 (some 5) (.alloc 24 (List.replicate 24 (.int .u8 0 : V))) none] [0, 5]) (.seq (.region 0 [.mk4 0 (some 16) (.mv (.t 0)) none,
    .mk4 1 (some 17) (.call 70 [(.t 16)]) none,
    .mk4 2 (some 6) (.mv (.t 17)) none] [0, 5, 6]) (c52_0)))
def c52_2 : AC :=
  .seq (.region 0 [.mk4 0 (some 26) (.mv (.t 0)) none,
    .mk4 1 (some 27) (.mv (.t 1)) none,
    .mk4 2 (some 28) (.call 72 [(.c (.nils)), (.t 26), (.t 27), (.c (.bool false)), (.c (.bool false))]) none,
    .mk4 3 (some 25) (.mv (.t 28)) none,
    .mk4 4 (some 29) (.extract (.t 25) 0) none,
    .mk4 5 (some 30) (.extract (.t 25) 1) none,
    .mk4 6 (some 7) (.mv (.t 29)) none,
    .mk4 7 (some 8) (.mv (.t 30)) none] [8]) (.seq (.region 0 [.mk4 0 (some 31) (.mv (.t 8)) none,
    .mk4 1 (some 4) (.mv (.t 31)) none] [4]) (.ret))
def c52 : AFn := ⟨2, 32, [.tmp 4],
  (.seq (.region 0 [.mk4 0 (some 4) (.mv (.c (.str []))) none] [0, 1]) (.seq (.seq (.region 0 [.mk4 0 (some 9) (.mv (.t 1)) none,
    .mk4 1 (some 10) (.bin .eql (.t 9) (.c (.i 10))) none] [0, 1, 10]) (.cond (.t 10) (c52_1) (.skip))) (c52_2)))⟩
def c53 : AFn := ⟨1, 5, [.tmp 2],
  (.seq (.region 0 [.mk4 0 (some 2) (.mv (.c (.str []))) none] [0]) (.seq (.region 0 [.mk4 0 (some 3) (.mv (.t 0)) none,
    .mk4 1 (some 4) (.call 73 [(.t 3), (.c (.i 10))]) none,
    .mk4 2 (some 2) (.mv (.t 4)) none] [2]) (.ret)))⟩
def c54_0 : AC :=
  .region 1 [.mk4 0 (some 12) (.mv (.t 3)) none,
    .mk4 1 (some 13) (.mv (.t 5)) none,
    .mk4 2 (some 14) (.bin .shr (.t 13) (.c (.int .u64 4))) none,
    .mk4 3 (some 15) (.ixStr (.c (.str [48, 49, 50, 51, 52, 53, 54, 55, 56, 57, 97, 98, 99, 100, 101, 102])) (.t 14)) none,
    .mk4 4 (some 16) (.mv (.t 5)) none,
    .mk4 5 (some 17) (.bin .and (.t 16) (.c (.int .u8 15))) none,
    .mk4 6 (some 18) (.ixStr (.c (.str [48, 49, 50, 51, 52, 53, 54, 55, 56, 57, 97, 98, 99, 100, 101, 102])) (.t 17)) none,
    ⟨7, (some 19), .bslice 1 2 [.int .u8 0, .int .u8 0] [(0, (.t 15)), (1, (.t 18))], none, some 0, []⟩,
    .mk4 8 (some 20) (.append 1 1 (.t 12) (.t 19)) none,
    .mk4 9 (some 3) (.mv (.t 20)) none] [3, 6, 7, 8]
def c54_1 : AC :=
  .seq (.block 1 (.seq (.region 0 [.mk4 0 (some 10) (.ixaS 1 (.t 6) (.t 8)) none,
    .mk4 1 (some 11) (.load1 (.t 10)) none,
    .mk4 2 (some 5) (.mv (.t 11)) none] [3, 5, 6, 7, 8]) (c54_0))) (.region 0 [.mk4 0 (some 21) (.bin .add (.t 8) (.c (.i 1))) none,
    .mk4 1 (some 8) (.mv (.t 21)) none] [3, 6, 7, 8])
def c54_2 : AC :=
  .seq (.seq (.region 0 [.mk4 0 (some 6) (.mv (.t 0)) none,
    .mk4 1 (some 7) (.lenL (.t 6)) none,
    .mk4 2 (some 8) (.mv (.c (.i 0))) none] [3, 6, 7, 8]) (.block 0 (.loop [3, 6, 7, 8] (.seq (.region 0 [.mk4 0 (some 9) (.bin .lss (.t 8) (.t 7)) none] [3, 6, 7, 8, 9]) (.seq (.cond (.t 9) (.skip) (.exit 0)) (c54_1)))))) (.seq (.region 0 [.mk4 0 (some 22) (.mv (.t 3)) none,
    .mk4 1 (some 23) (.ofBytes (.t 22)) none,
    .mk4 2 (some 2) (.mv (.t 23)) none] [2]) (.ret))
def c54 : AFn := ⟨1, 24, [.tmp 2],
  (.seq (.region 0 [.mk4 0 (some 2) (.mv (.c (.str []))) none] [0]) (.seq (.region 0 [.mk4 0 (some 3) (.mv (.c (.nils))) none] [0, 3]) (c54_2)))⟩
def c55_0 : AC :=
  .block 0 (.rangeFunc (.t 19) [20] [5] (.region 0 [.mk4 0 (some 6) (.mv (.t 20)) none] [5, 6]) (.block 1 (.region 0 [.mk4 0 (some 21) (.load1 (.t 5)) none,
    .mk4 1 (some 22) (.mv (.t 6)) none,
    .mk4 2 (some 23) (.append 1 1 (.t 21) (.t 22)) none,
    .mk4 3 none (.store 1 (.t 5) (.t 23)) none] [])))
def c55_1 : AC :=
  .seq (.region 0 [.mk4 0 (some 13) (.mv (.t 0)) none,
    .mk4 1 (some 14) (.mv (.t 0)) none,
    .mk4 2 (some 15) (.nilck (.t 14)) none,
    .mk4 3 (some 16) (.faddr 1 (.t 15)) none,
    .mk4 4 (some 17) (.load1 (.t 16)) none,
    .mk4 5 (some 18) (.mv (.t 1)) none,
    .mk4 6 (some 19) (.call 74 [(.t 13), (.t 17), (.t 18)]) none] [5, 19]) (c55_0)
def c55_2 : AC :=
  .seq (.seq (.region 0 [.mk4 0 (some 7) (.mv (.t 1)) none,
    .mk4 1 (some 8) (.mv (.t 0)) none,
    .mk4 2 (some 9) (.call 48 [(.t 8)]) none,
    .mk4 3 (some 10) (.minI [(.t 7), (.t 9)]) none,
    .mk4 4 (some 1) (.mv (.t 10)) none] [0, 1, 5]) (.seq (.region 0 [.mk4 0 (some 11) (.mv (.t 1)) none,
    .mk4 1 (some 12) (.bin .gtr (.t 11) (.c (.i 0))) none] [0, 1, 5, 12]) (.cond (.t 12) (c55_1) (.skip)))) (.seq (.region 0 [.mk4 0 (some 24) (.load1 (.t 5)) none,
    .mk4 1 (some 4) (.mv (.t 24)) none] [4]) (.ret))
def c55 : AFn := ⟨2, 25, [.tmp 4],
  (.seq (.region 0 [.mk4 0 (some 4) (.mv (.c (.nils))) none] [0, 1]) (.seq (.region 0 [.mk4 0 (some 5) (.alloc 1 [.nils]) none] [0, 1, 5]) (c55_2)))⟩
def c57_0 : AC :=
  .seq (.region 0 [.mk4 0 (some 8) (.mv (.t 0)) none,
    .mk4 1 (some 9) (.mv (.t 0)) none,
    .mk4 2 (some 10) (.nilck (.t 9)) none,
    .mk4 3 (some 11) (.faddr 1 (.t 10)) none,
    .mk4 4 (some 12) (.load1 (.t 11)) none,
    .mk4 5 (some 13) (.mv (.t 1)) none,
    .mk4 6 (some 14) (.append 1 1 (.t 12) (.t 13)) none,
    .mk4 7 (some 15) (.nilck (.t 8)) none,
    .mk4 8 (some 16) (.faddr 1 (.t 15)) none,
    .mk4 9 none (.store 1 (.t 16) (.t 14)) none] [1]) (.seq (.region 0 [.mk4 0 (some 17) (.mv (.t 1)) none,
    .mk4 1 (some 18) (.lenS (.t 17)) none,
    .mk4 2 (some 4) (.mv (.t 18)) none,
    .mk4 3 (some 5) (.mv (.c (.nili))) none] [4, 5]) (.ret))
def c57 : AFn := ⟨2, 19, [.tmp 4, .tmp 5],
  (.seq (.region 0 [.mk4 0 (some 4) (.mv (.c (.i 0))) none,
    .mk4 1 (some 5) (.mv (.c (.nili))) none] [0, 1]) (.seq (.region 0 [.mk4 0 (some 6) (.mv (.t 0)) none,
    .mk4 1 (some 7) (.call 75 [(.t 6)]) none] [0, 1]) (c57_0)))⟩
def c59_0 : AC :=
  .cond (.t 5) (.seq (.region 0 [.mk4 0 (some 4) (.mv (.c (.i 1))) none] [4]) (.ret)) (.seq (.region 0 [.mk4 0 (some 9) (.mv (.t 1)) none,
    .mk4 1 (some 10) (.call 77 [(.t 9)]) none,
    .mk4 2 (some 11) (.un .not (.t 10)) none,
    .mk4 3 (some 8) (.mv (.t 11)) none] [8]) (.cond (.t 8) (.seq (.region 0 [.mk4 0 (some 4) (.mv (.c (.i 100))) none] [4]) (.ret)) (.skip)))
def c59_1 : AC :=
  .seq (.region 0 [.mk4 0 (some 4) (.mv (.c (.i 0))) none] [0, 1]) (.seq (.block 0 (.seq (.region 0 [.mk4 0 (some 6) (.mv (.t 0)) none,
    .mk4 1 (some 7) (.eq .ptr false (.t 6) (.c (.ptr none))) none,
    .mk4 2 (some 5) (.mv (.t 7)) none] [1, 5]) (c59_0))) (.seq (.region 0 [.mk4 0 (some 4) (.mv (.c (.i 0))) none] [4]) (.ret)))
def c59 : AFn := ⟨2, 12, [.tmp 4],
  (c59_1)⟩
def c61_0 : AC :=
  .seq (.region 0 [.mk4 0 (some 10) (.mv (.t 0)) none,
    .mk4 1 (some 11) (.mkSlice 1 1 [.int .u8 0] (.t 10) (.t 10)) none,
    .mk4 2 (some 12) (.build [.nils, .i 0, .i 0, .int .u64 0, .int .u64 0, .bool false] [(0, 1, (.t 11)), (5, 1, (.c (.bool true)))]) none,
    .mk4 3 (some 13) (.box 6 (.t 12)) none,
    .mk4 4 (some 2) (.mv (.t 13)) none,
    .mk4 5 (some 3) (.mv (.c (.i 0))) none] [2, 3]) (.ret)
def c61_1 : AC :=
  .seq (.seq (.region 0 [.mk4 0 (some 4) (.mv (.t 0)) none,
    .mk4 1 (some 5) (.bin .lss (.t 4) (.c (.i 0))) none,
    .mk4 2 (some 6) (.mv (.t 5)) none,
    .mk4 3 (some 7) (.mv (.t 0)) (some (6, false)),
    .mk4 4 (some 8) (.bin .gtr (.t 7) (.c (.i 65536))) (some (6, false)),
    .mk4 5 (some 9) (.pick (.t 6) (.c (.bool true)) (.t 8)) none] [0, 9]) (.cond (.t 9) (.seq (.region 0 [.mk4 0 (some 2) (.mv (.c (.ptr none))) none,
    .mk4 1 (some 3) (.mv (.c (.i 2))) none] [2, 3]) (.ret)) (.skip))) (c61_0)
def c61 : AFn := ⟨1, 14, [.tmp 2, .tmp 3],
  (.seq (.region 0 [.mk4 0 (some 2) (.mv (.c (.ptr none))) none,
    .mk4 1 (some 3) (.mv (.c (.i 0))) none] [0]) (c61_1))⟩
def c62_0 : AC :=
  .seq (.region 0 [.mk4 0 (some 3) (.mv (.t 0)) none,
    .mk4 1 (some 4) (.bin .geq (.t 3) (.c (.i 1))) none,
    .mk4 2 (some 5) (.mv (.t 4)) none,
    .mk4 3 (some 6) (.mv (.t 0)) (some (5, true)),
    .mk4 4 (some 7) (.bin .leq (.t 6) (.c (.i 65536))) (some (5, true)),
    .mk4 5 (some 8) (.pick (.t 5) (.t 7) (.c (.bool false))) none,
    .mk4 6 (some 2) (.mv (.t 8)) none] [2]) (.ret)
def c62 : AFn := ⟨1, 9, [.tmp 2],
  (.seq (.region 0 [.mk4 0 (some 2) (.mv (.c (.bool false))) none] [0]) (c62_0))⟩
def c63_0 : AC :=
  .seq (.seq (.region 0 [.mk4 0 (some 11) (.load1 (.t 6)) none,
    .mk4 1 (some 12) (.lenL (.t 11)) none,
    .mk4 2 (some 13) (.load1 (.t 3)) none,
    .mk4 3 (some 14) (.bin .eql (.t 12) (.t 13)) none] [6, 7, 14]) (.cond (.t 14) (.exit 0) (.skip))) (.region 0 [.mk4 0 (some 15) (.load1 (.t 6)) none,
    .mk4 1 (some 16) (.mv (.t 7)) none,
    .mk4 2 (some 17) (.bslice 1 1 [.i 0] [(0, (.t 16))]) none,
    .mk4 3 (some 18) (.append 1 8 (.t 15) (.t 17)) none,
    .mk4 4 none (.store 1 (.t 6) (.t 18)) none] [])
def c63_1 : AC :=
  .seq (.region 0 [.mk4 0 (some 19) (.load1 (.t 6)) none,
    .mk4 1 (some 20) (.load1 (.t 6)) none,
    .mk4 2 (some 21) (.lenL (.t 20)) none,
    .mk4 3 (some 22) (.load1 (.t 3)) none,
    .mk4 4 (some 23) (.bin .eql (.t 21) (.t 22)) none,
    .mk4 5 (some 24) (.mv (.t 23)) none,
    .mk4 6 (some 25) (.mv (.t 0)) (some (24, true)),
    .mk4 7 (some 26) (.nilck (.t 25)) (some (24, true)),
    .mk4 8 (some 27) (.faddr 288 (.t 26)) (some (24, true)),
    .mk4 9 (some 28) (.load1 (.t 27)) (some (24, true)),
    .mk4 10 (some 29) (.lenL (.t 28)) (some (24, true)),
    .mk4 11 (some 30) (.bin .lss (.t 29) (.c (.i 1000))) (some (24, true)),
    .mk4 12 (some 31) (.pick (.t 24) (.t 30) (.c (.bool false))) none,
    .mk4 13 (some 4) (.mv (.t 19)) none,
    .mk4 14 (some 5) (.mv (.t 31)) none] [4, 5]) (.ret)
def c63_2 : AC :=
  .scope (.seq (.region 0 [.mk4 0 (some 6) (.alloc 1 [.nils]) none] [0, 3, 6]) (.seq (.label 0) (.seq (.seq (.region 0 [.mk4 0 (some 8) (.mv (.t 0)) none,
    .mk4 1 (some 9) (.call 78 [(.t 8)]) none] [0, 3, 6, 9]) (.block 0 (.rangeFunc (.t 9) [10] [3, 6] (.region 0 [.mk4 0 (some 7) (.mv (.t 10)) none] [3, 6, 7]) (.block 1 (c63_0))))) (c63_1))))
def c63 : AFn := ⟨2, 32, [.tmp 4, .tmp 5],
  (.seq (.region 0 [.mk4 0 (some 3) (.box 1 (.t 1)) none,
    .mk4 1 (some 4) (.mv (.c (.nils))) none,
    .mk4 2 (some 5) (.mv (.c (.bool false))) none] [0, 3]) (c63_2))⟩
def c64_0 : AC :=
  .region 0 [.mk4 0 (some 28) (.mv (.t 0)) none,
    .mk4 1 (some 29) (.mv (.t 7)) none,
    .mk4 2 (some 30) (.mv (.t 0)) none,
    .mk4 3 (some 31) (.nilck (.t 30)) none,
    .mk4 4 (some 32) (.faddr 288 (.t 31)) none,
    .mk4 5 (some 33) (.load1 (.t 32)) none,
    .mk4 6 (some 34) (.lenL (.t 33)) none,
    .mk4 7 (some 35) (.mv (.t 6)) none,
    .mk4 8 (some 36) (.build [.bool false, .i 0, .i 0] [(0, 1, (.c (.bool true))), (1, 1, (.t 34)), (2, 1, (.t 35))]) none,
    .mk4 9 (some 37) (.nilck (.t 28)) none,
    .mk4 10 (some 38) (.faddr 0 (.t 37)) none,
    .mk4 11 (some 39) (.ixaA 96 3 (.t 38) (.t 29)) none,
    .mk4 12 none (.store 3 (.t 39) (.t 36)) none] [0, 1, 8, 9, 10]
def c64_1 : AC :=
  .seq (.region 0 [.mk4 0 (some 15) (.mv (.t 1)) none,
    .mk4 1 (some 16) (.mv (.t 6)) none,
    .mk4 2 (some 17) (.mv (.t 1)) none,
    .mk4 3 (some 18) (.mv (.t 6)) none,
    .mk4 4 (some 19) (.mv (.t 7)) none,
    .mk4 5 (some 20) (.nilck (.t 15)) none,
    .mk4 6 (some 21) (.faddr 0 (.t 20)) none,
    .mk4 7 (some 22) (.ixaA 2 7 (.t 21) (.t 16)) none,
    .mk4 8 (some 23) (.faddr 0 (.t 22)) none,
    .mk4 10 (some 24) (.nilck (.t 17)) none,
    .mk4 11 (some 25) (.faddr 0 (.t 24)) none,
    .mk4 9 none (.store 1 (.t 23) (.c (.i 1))) none,
    .mk4 12 (some 26) (.ixaA 2 7 (.t 25) (.t 18)) none,
    .mk4 13 (some 27) (.faddr 1 (.t 26)) none,
    .mk4 14 none (.store 1 (.t 27) (.t 19)) none] [0, 1, 6, 7, 8, 9, 10]) (c64_0)
def c64_2 : AC :=
  .seq (.block 1 (.seq (.region 0 [.mk4 0 (some 12) (.mv (.t 10)) none,
    .mk4 1 (some 13) (.ixaS 1 (.t 8) (.t 10)) none,
    .mk4 2 (some 14) (.load1 (.t 13)) none,
    .mk4 3 (some 6) (.mv (.t 12)) none,
    .mk4 4 (some 7) (.mv (.t 14)) none] [0, 1, 6, 7, 8, 9, 10]) (c64_1))) (.region 0 [.mk4 0 (some 40) (.bin .add (.t 10) (.c (.i 1))) none,
    .mk4 1 (some 10) (.mv (.t 40)) none] [0, 1, 8, 9, 10])
def c64_3 : AC :=
  .region 0 [.mk4 0 (some 41) (.mv (.t 0)) none,
    .mk4 1 (some 42) (.mv (.t 0)) none,
    .mk4 2 (some 43) (.nilck (.t 42)) none,
    .mk4 3 (some 44) (.faddr 288 (.t 43)) none,
    .mk4 4 (some 45) (.load1 (.t 44)) none,
    .mk4 5 (some 46) (.mv (.t 1)) none,
    .mk4 6 (some 47) (.bslice 1 1 [.ptr none] [(0, (.t 46))]) none,
    .mk4 7 (some 48) (.append 1 8 (.t 45) (.t 47)) none,
    .mk4 8 (some 49) (.nilck (.t 41)) none,
    .mk4 9 (some 50) (.faddr 288 (.t 49)) none,
    .mk4 10 none (.store 1 (.t 50) (.t 48)) none] []
def c64_4 : AC :=
  .seq (.seq (.region 0 [.mk4 0 (some 8) (.mv (.t 2)) none,
    .mk4 1 (some 9) (.lenL (.t 8)) none,
    .mk4 2 (some 10) (.mv (.c (.i 0))) none] [0, 1, 8, 9, 10]) (.block 0 (.loop [0, 1, 8, 9, 10] (.seq (.region 0 [.mk4 0 (some 11) (.bin .lss (.t 10) (.t 9)) none] [0, 1, 8, 9, 10, 11]) (.seq (.cond (.t 11) (.skip) (.exit 0)) (c64_2)))))) (c64_3)
def c64 : AFn := ⟨3, 51, [],
  (c64_4)⟩
def c65_0 : AC :=
  .seq (.region 0 [.mk4 0 (some 46) (.mv (.t 0)) none,
    .mk4 1 (some 47) (.nilck (.t 46)) none,
    .mk4 2 (some 48) (.faddr 3 (.t 47)) none,
    .mk4 3 (some 49) (.load1 (.t 48)) none,
    .mk4 4 (some 50) (.mv (.t 1)) none,
    .mk4 5 (some 51) (.lenL (.t 50)) none,
    .mk4 6 (some 52) (.convInt .u64 (.t 51)) none,
    .mk4 7 (some 53) (.bin .add (.t 49) (.t 52)) none,
    .mk4 8 (some 54) (.nilck (.t 46)) none,
    .mk4 9 (some 55) (.faddr 3 (.t 54)) none,
    .mk4 10 none (.store 1 (.t 55) (.t 53)) none] [1]) (.seq (.region 0 [.mk4 0 (some 56) (.mv (.t 1)) none,
    .mk4 1 (some 57) (.lenL (.t 56)) none,
    .mk4 2 (some 4) (.mv (.t 57)) none] [4]) (.ret))
def c65_1 : AC :=
  .region 0 [.mk4 0 (some 32) (.load1 (.t 5)) none,
    .mk4 1 (some 33) (.mv (.t 6)) none,
    .mk4 2 (some 34) (.load1 (.t 5)) none,
    ⟨3, (some 35), .copy 1 (.t 33) (.t 34), none, none, [(32, .load1 (.t 5), none)]⟩,
    .mk4 4 (some 36) (.slice 1 (.t 32) (some (.t 35)) none none) none,
    .mk4 5 none (.store 1 (.t 5) (.t 36)) none] []
def c65_2 : AC :=
  .seq (.region 0 [.mk4 0 (some 37) (.mv (.t 0)) none,
    .mk4 1 (some 38) (.nilck (.t 37)) none,
    .mk4 2 (some 39) (.faddr 2 (.t 38)) none,
    .mk4 3 (some 40) (.load1 (.t 39)) none,
    .mk4 4 (some 41) (.mv (.t 1)) none,
    .mk4 5 (some 42) (.lenL (.t 41)) none,
    .mk4 6 (some 43) (.bin .add (.t 40) (.t 42)) none,
    .mk4 7 (some 44) (.nilck (.t 37)) none,
    .mk4 8 (some 45) (.faddr 2 (.t 44)) none,
    .mk4 9 none (.store 1 (.t 45) (.t 43)) none] [0, 1]) (c65_0)
def c65_3 : AC :=
  .seq (.seq (.region 0 [.mk4 0 (some 18) (.mv (.t 0)) none,
    .mk4 1 (some 19) (.mv (.t 0)) none,
    .mk4 2 (some 20) (.nilck (.t 19)) none,
    .mk4 3 (some 21) (.faddr 1 (.t 20)) none,
    .mk4 4 (some 22) (.load1 (.t 21)) none,
    .mk4 5 (some 23) (.mv (.t 0)) none,
    .mk4 6 (some 24) (.nilck (.t 23)) none,
    .mk4 7 (some 25) (.faddr 2 (.t 24)) none,
    .mk4 8 (some 26) (.load1 (.t 25)) none,
    .mk4 9 (some 27) (.bin .add (.t 22) (.t 26)) none,
    .mk4 10 (some 28) (.mv (.t 1)) none,
    .mk4 11 (some 29) (.lenL (.t 28)) none,
    .mk4 12 (some 30) (.call 74 [(.t 18), (.t 27), (.t 29)]) none] [0, 1, 5, 30]) (.block 0 (.rangeFunc (.t 30) [31] [5] (.region 0 [.mk4 0 (some 6) (.mv (.t 31)) none] [5, 6]) (.block 1 (c65_1))))) (c65_2)
def c65_4 : AC :=
  .seq (.seq (.region 0 [.mk4 0 (some 14) (.mv (.t 1)) none,
    .mk4 1 (some 15) (.lenL (.t 14)) none,
    .mk4 2 (some 16) (.bin .eql (.t 15) (.c (.i 0))) none] [0, 1, 16]) (.cond (.t 16) (.seq (.region 0 [.mk4 0 (some 4) (.mv (.c (.i 0))) none] [4]) (.ret)) (.skip))) (.seq (.region 0 [.mk4 0 (some 17) (.mv (.t 1)) none,
    .mk4 1 (some 5) (.alloc 1 [.nils]) none,
    .mk4 2 none (.store 1 (.t 5) (.t 17)) none] [0, 1, 5]) (c65_3))
def c65_5 : AC :=
  .seq (.region 0 [.mk4 0 (some 7) (.mv (.t 1)) none,
    .mk4 1 (some 8) (.mv (.t 1)) none,
    .mk4 2 (some 9) (.lenL (.t 8)) none,
    .mk4 3 (some 10) (.mv (.t 0)) none,
    .mk4 4 (some 11) (.call 50 [(.t 10)]) none,
    .mk4 5 (some 12) (.minI [(.t 9), (.t 11)]) none,
    .mk4 6 (some 13) (.slice 1 (.t 7) none (some (.t 12)) none) none,
    .mk4 7 (some 1) (.mv (.t 13)) none] [0, 1]) (c65_4)
def c65 : AFn := ⟨2, 58, [.tmp 4],
  (.seq (.region 0 [.mk4 0 (some 4) (.mv (.c (.i 0))) none] [0, 1]) (c65_5))⟩
def c66_0 : AC :=
  .region 0 [.mk4 0 (some 41) (.mv (.t 0)) none,
    .mk4 1 (some 42) (.mv (.t 1)) none,
    .mk4 2 (some 43) (.nilck (.t 41)) none,
    .mk4 3 (some 44) (.faddr 0 (.t 43)) none,
    .mk4 4 (some 45) (.ixaA 2 7 (.t 44) (.t 42)) none,
    .mk4 5 (some 46) (.faddr 6 (.t 45)) none,
    .mk4 6 (some 47) (.load1 (.t 46)) none,
    .mk4 7 (some 48) (.bin .add (.t 47) (.c (.int .u64 1))) none,
    .mk4 8 (some 49) (.nilck (.t 41)) none,
    .mk4 9 (some 50) (.faddr 0 (.t 49)) none,
    .mk4 10 (some 51) (.ixaA 2 7 (.t 50) (.t 42)) none,
    .mk4 11 (some 52) (.faddr 6 (.t 51)) none,
    .mk4 12 none (.store 1 (.t 52) (.t 48)) none] []
def c66_1 : AC :=
  .region 0 [.mk4 0 (some 19) (.mv (.t 0)) none,
    .mk4 1 (some 20) (.mv (.t 1)) none,
    .mk4 2 (some 21) (.nilck (.t 19)) none,
    .mk4 3 (some 22) (.faddr 0 (.t 21)) none,
    .mk4 4 (some 23) (.ixaA 2 7 (.t 22) (.t 20)) none,
    .mk4 5 (some 24) (.faddr 5 (.t 23)) none,
    .mk4 6 (some 25) (.load1 (.t 24)) none,
    .mk4 7 (some 26) (.bin .add (.t 25) (.c (.int .u64 1))) none,
    .mk4 8 (some 27) (.nilck (.t 19)) none,
    .mk4 9 (some 28) (.faddr 0 (.t 27)) none,
    .mk4 10 (some 29) (.ixaA 2 7 (.t 28) (.t 20)) none,
    .mk4 11 (some 30) (.faddr 5 (.t 29)) none,
    .mk4 12 none (.store 1 (.t 30) (.t 26)) none] [0, 1, 3]
def c66_2 : AC :=
  .seq (.region 0 [.mk4 0 (some 31) (.mv (.t 3)) none,
    .mk4 1 (some 32) (.mv (.t 31)) none,
    .mk4 2 (some 33) (.mv (.t 0)) (some (32, true)),
    .mk4 3 (some 34) (.mv (.t 1)) (some (32, true)),
    .mk4 4 (some 35) (.nilck (.t 33)) (some (32, true)),
    .mk4 5 (some 36) (.faddr 0 (.t 35)) (some (32, true)),
    .mk4 6 (some 37) (.ixaA 2 7 (.t 36) (.t 34)) (some (32, true)),
    .mk4 7 (some 38) (.faddr 3 (.t 37)) (some (32, true)),
    .mk4 8 (some 39) (.load1 (.t 38)) (some (32, true)),
    .mk4 9 (some 40) (.pick (.t 32) (.t 39) (.c (.bool false))) none] [0, 1, 40]) (.cond (.t 40) (c66_0) (.skip))
def c66_3 : AC :=
  .seq (.seq (.region 0 [.mk4 0 (some 8) (.mv (.t 2)) none,
    .mk4 1 (some 9) (.mv (.t 8)) none,
    .mk4 2 (some 10) (.mv (.t 0)) (some (9, true)),
    .mk4 3 (some 11) (.mv (.t 1)) (some (9, true)),
    .mk4 4 (some 12) (.nilck (.t 10)) (some (9, true)),
    .mk4 5 (some 13) (.faddr 0 (.t 12)) (some (9, true)),
    .mk4 6 (some 14) (.ixaA 2 7 (.t 13) (.t 11)) (some (9, true)),
    .mk4 7 (some 15) (.faddr 2 (.t 14)) (some (9, true)),
    .mk4 8 (some 16) (.load1 (.t 15)) (some (9, true)),
    .mk4 9 (some 17) (.eq .ptr true (.t 16) (.c (.ptr none))) (some (9, true)),
    .mk4 10 (some 18) (.pick (.t 9) (.t 17) (.c (.bool false))) none] [0, 1, 3, 18]) (.cond (.t 18) (c66_1) (.skip))) (c66_2)
def c66 : AFn := ⟨4, 53, [],
  (c66_3)⟩
def c67_0 : AC :=
  .seq (.region 0 [.mk4 0 (some 3) (.mv (.t 0)) none,
    .mk4 1 (some 4) (.eq .ptr false (.t 3) (.c (.ptr none))) none,
    .mk4 2 (some 5) (.mv (.t 4)) none,
    .mk4 3 (some 6) (.mv (.t 0)) (some (5, false)),
    .mk4 4 (some 7) (.nilck (.t 6)) (some (5, false)),
    .mk4 5 (some 8) (.faddr 5 (.t 7)) (some (5, false)),
    .mk4 6 (some 9) (.load1 (.t 8)) (some (5, false)),
    .mk4 7 (some 10) (.un .not (.t 9)) (some (5, false)),
    .mk4 8 (some 11) (.pick (.t 5) (.c (.bool true)) (.t 10)) none,
    .mk4 9 (some 2) (.mv (.t 11)) none] [2]) (.ret)
def c67 : AFn := ⟨1, 12, [.tmp 2],
  (.seq (.region 0 [.mk4 0 (some 2) (.mv (.c (.bool false))) none] [0]) (c67_0))⟩
def c68_0 : AC :=
  .region 0 [.mk4 0 (some 37) (.mv (.t 0)) none,
    .mk4 1 (some 38) (.nilck (.t 37)) none,
    .mk4 2 (some 39) (.faddr 4 (.t 38)) none,
    .mk4 3 (some 40) (.load1 (.t 39)) none,
    .mk4 4 (some 41) (.mv (.t 5)) none,
    .mk4 5 (some 42) (.lenL (.t 41)) none,
    .mk4 6 (some 43) (.convInt .u64 (.t 42)) none,
    .mk4 7 (some 44) (.bin .add (.t 40) (.t 43)) none,
    .mk4 8 (some 45) (.nilck (.t 37)) none,
    .mk4 9 (some 46) (.faddr 4 (.t 45)) none,
    .mk4 10 none (.store 1 (.t 46) (.t 44)) none] [5]
def c68_1 : AC :=
  .seq (.region 0 [.mk4 0 (some 28) (.mv (.t 0)) none,
    .mk4 1 (some 29) (.nilck (.t 28)) none,
    .mk4 2 (some 30) (.faddr 2 (.t 29)) none,
    .mk4 3 (some 31) (.load1 (.t 30)) none,
    .mk4 4 (some 32) (.mv (.t 5)) none,
    .mk4 5 (some 33) (.lenL (.t 32)) none,
    .mk4 6 (some 34) (.bin .sub (.t 31) (.t 33)) none,
    .mk4 7 (some 35) (.nilck (.t 28)) none,
    .mk4 8 (some 36) (.faddr 2 (.t 35)) none,
    .mk4 9 none (.store 1 (.t 36) (.t 34)) none] [0, 5]) (c68_0)
def c68_2 : AC :=
  .seq (.region 0 [.mk4 0 (some 12) (.mv (.t 0)) none,
    .mk4 1 (some 13) (.mv (.t 0)) none,
    .mk4 2 (some 14) (.nilck (.t 13)) none,
    .mk4 3 (some 15) (.faddr 1 (.t 14)) none,
    .mk4 4 (some 16) (.load1 (.t 15)) none,
    .mk4 5 (some 17) (.mv (.t 5)) none,
    .mk4 6 (some 18) (.lenL (.t 17)) none,
    .mk4 7 (some 19) (.bin .add (.t 16) (.t 18)) none,
    .mk4 8 (some 20) (.mv (.t 0)) none,
    .mk4 9 (some 21) (.nilck (.t 20)) none,
    .mk4 10 (some 22) (.faddr 0 (.t 21)) none,
    .mk4 11 (some 23) (.load1 (.t 22)) none,
    .mk4 12 (some 24) (.lenL (.t 23)) none,
    .mk4 13 (some 25) (.bin .rem (.t 19) (.t 24)) none,
    .mk4 14 (some 26) (.nilck (.t 12)) none,
    .mk4 15 (some 27) (.faddr 1 (.t 26)) none,
    .mk4 16 none (.store 1 (.t 27) (.t 25)) none] [0, 5]) (c68_1)
def c68_3 : AC :=
  .seq (.seq (.region 0 [.mk4 0 (some 9) (.mv (.t 5)) none,
    .mk4 1 (some 10) (.lenL (.t 9)) none,
    .mk4 2 (some 11) (.bin .gtr (.t 10) (.c (.i 0))) none] [0, 5, 11]) (.cond (.t 11) (c68_2) (.skip))) (.seq (.region 0 [.mk4 0 (some 47) (.mv (.t 5)) none,
    .mk4 1 (some 4) (.mv (.t 47)) none] [4]) (.ret))
def c68 : AFn := ⟨2, 48, [.tmp 4],
  (.seq (.region 0 [.mk4 0 (some 4) (.mv (.c (.nils))) none] [0, 1]) (.seq (.region 0 [.mk4 0 (some 6) (.mv (.t 0)) none,
    .mk4 1 (some 7) (.mv (.t 1)) none,
    .mk4 2 (some 8) (.call 55 [(.t 6), (.t 7)]) none,
    .mk4 3 (some 5) (.mv (.t 8)) none] [0, 5]) (c68_3)))⟩
def c69_0 : AC :=
  .seq (.region 0 [.mk4 0 (some 5) (.mv (.t 0)) none,
    .mk4 1 (some 6) (.mv (.t 0)) none,
    .mk4 2 (some 7) (.bin .add (.t 6) (.c (.i 1))) none,
    .mk4 3 (some 8) (.sliceS (.c (.str [48, 49, 50, 51, 52, 53, 54, 55, 56, 57, 97, 98, 99, 100, 101, 102, 103, 104, 105, 106, 107, 108, 109, 110, 111, 112, 113, 114, 115, 116, 117, 118, 119, 120, 121, 122])) (some (.t 5)) (some (.t 7))) none,
    .mk4 4 (some 2) (.mv (.t 8)) none] [2]) (.ret)
def c69_1 : AC :=
  .seq (.region 0 [.mk4 0 (some 9) (.mv (.t 0)) none,
    .mk4 1 (some 10) (.bin .mul (.t 9) (.c (.i 2))) none,
    .mk4 2 (some 11) (.mv (.t 0)) none,
    .mk4 3 (some 12) (.bin .mul (.t 11) (.c (.i 2))) none,
    .mk4 4 (some 13) (.bin .add (.t 12) (.c (.i 2))) none,
    .mk4 5 (some 14) (.sliceS (.c (.str [48, 48, 48, 49, 48, 50, 48, 51, 48, 52, 48, 53, 48, 54, 48, 55, 48, 56, 48, 57, 49, 48, 49, 49, 49, 50, 49, 51, 49, 52, 49, 53, 49, 54, 49, 55, 49, 56, 49, 57, 50, 48, 50, 49, 50, 50, 50, 51, 50, 52, 50, 53, 50, 54, 50, 55, 50, 56, 50, 57, 51, 48, 51, 49, 51, 50, 51, 51, 51, 52, 51, 53, 51, 54, 51, 55, 51, 56, 51, 57, 52, 48, 52, 49, 52, 50, 52, 51, 52, 52, 52, 53, 52, 54, 52, 55, 52, 56, 52, 57, 53, 48, 53, 49, 53, 50, 53, 51, 53, 52, 53, 53, 53, 54, 53, 55, 53, 56, 53, 57, 54, 48, 54, 49, 54, 50, 54, 51, 54, 52, 54, 53, 54, 54, 54, 55, 54, 56, 54, 57, 55, 48, 55, 49, 55, 50, 55, 51, 55, 52, 55, 53, 55, 54, 55, 55, 55, 56, 55, 57, 56, 48, 56, 49, 56, 50, 56, 51, 56, 52, 56, 53, 56, 54, 56, 55, 56, 56, 56, 57, 57, 48, 57, 49, 57, 50, 57, 51, 57, 52, 57, 53, 57, 54, 57, 55, 57, 56, 57, 57])) (some (.t 10)) (some (.t 13))) none,
    .mk4 6 (some 2) (.mv (.t 14)) none] [2]) (.ret)
def c69 : AFn := ⟨1, 15, [.tmp 2],
  (.seq (.region 0 [.mk4 0 (some 2) (.mv (.c (.str []))) none] [0]) (.seq (.seq (.region 0 [.mk4 0 (some 3) (.mv (.t 0)) none,
    .mk4 1 (some 4) (.bin .lss (.t 3) (.c (.i 10))) none] [0, 4]) (.cond (.t 4) (c69_0) (.skip))) (c69_1)))⟩
def c70_0 : AC :=
  .seq (.region 0 [.mk4 0 (some 7) (.mv (.t 3)) none,
    .mk4 1 (some 8) (.mv (.t 0)) none,
    .mk4 2 (some 9) (.mv (.t 3)) none,
    .mk4 3 (some 10) (.ixaA 20 1 (.c (.p 2 0)) (.t 9)) none,
    .mk4 4 (some 11) (.load1 (.t 10)) none,
    .mk4 5 (some 12) (.bin .geq (.t 8) (.t 11)) none,
    .mk4 6 (some 13) (.call 81 [(.t 12)]) none,
    .mk4 7 (some 14) (.bin .add (.t 7) (.t 13)) none,
    .mk4 8 (some 2) (.mv (.t 14)) none] [2]) (.ret)
def c70 : AFn := ⟨1, 15, [.tmp 2],
  (.seq (.region 0 [.mk4 0 (some 2) (.mv (.c (.i 0))) none] [0]) (.seq (.region 0 [.mk4 0 (some 4) (.mv (.t 0)) none,
    .mk4 1 (some 5) (.call 80 [(.t 4)]) none,
    .mk4 2 (some 6) (.call 79 [(.t 5)]) none,
    .mk4 3 (some 3) (.mv (.t 6)) none] [0, 3]) (c70_0)))⟩
def c71_0 : AC :=
  .region 0 [.mk4 0 (some 162) (.mv (.t 0)) none,
    .mk4 1 (some 163) (.mv (.t 12)) none,
    .mk4 2 (some 164) (.bin .add (.c (.int .u32 48)) (.t 163)) none,
    .mk4 3 (some 165) (.convInt .u8 (.t 164)) none,
    .mk4 4 (some 166) (.ixaS 1 (.t 162) (.c (.i 0))) none,
    .mk4 5 none (.store 1 (.t 166) (.t 165)) none] []
def c71_1 : AC :=
  .seq (.region 0 [.mk4 0 (some 145) (.mv (.t 0)) none,
    .mk4 1 (some 146) (.mv (.t 4)) none,
    .mk4 2 (some 147) (.bin .sub (.t 146) (.c (.i 1))) none,
    .mk4 3 (some 148) (.mv (.t 0)) none,
    .mk4 4 (some 149) (.mv (.t 4)) none,
    .mk4 5 (some 150) (.bin .sub (.t 149) (.c (.i 2))) none,
    .mk4 6 (some 151) (.mv (.t 16)) none,
    .mk4 7 (some 152) (.bin .add (.t 151) (.c (.int .u32 1))) none,
    .mk4 8 (some 153) (.ixStr (.c (.str [48, 48, 48, 49, 48, 50, 48, 51, 48, 52, 48, 53, 48, 54, 48, 55, 48, 56, 48, 57, 49, 48, 49, 49, 49, 50, 49, 51, 49, 52, 49, 53, 49, 54, 49, 55, 49, 56, 49, 57, 50, 48, 50, 49, 50, 50, 50, 51, 50, 52, 50, 53, 50, 54, 50, 55, 50, 56, 50, 57, 51, 48, 51, 49, 51, 50, 51, 51, 51, 52, 51, 53, 51, 54, 51, 55, 51, 56, 51, 57, 52, 48, 52, 49, 52, 50, 52, 51, 52, 52, 52, 53, 52, 54, 52, 55, 52, 56, 52, 57, 53, 48, 53, 49, 53, 50, 53, 51, 53, 52, 53, 53, 53, 54, 53, 55, 53, 56, 53, 57, 54, 48, 54, 49, 54, 50, 54, 51, 54, 52, 54, 53, 54, 54, 54, 55, 54, 56, 54, 57, 55, 48, 55, 49, 55, 50, 55, 51, 55, 52, 55, 53, 55, 54, 55, 55, 55, 56, 55, 57, 56, 48, 56, 49, 56, 50, 56, 51, 56, 52, 56, 53, 56, 54, 56, 55, 56, 56, 56, 57, 57, 48, 57, 49, 57, 50, 57, 51, 57, 52, 57, 53, 57, 54, 57, 55, 57, 56, 57, 57])) (.t 152)) none,
    .mk4 9 (some 154) (.mv (.t 16)) none,
    .mk4 10 (some 155) (.ixStr (.c (.str [48, 48, 48, 49, 48, 50, 48, 51, 48, 52, 48, 53, 48, 54, 48, 55, 48, 56, 48, 57, 49, 48, 49, 49, 49, 50, 49, 51, 49, 52, 49, 53, 49, 54, 49, 55, 49, 56, 49, 57, 50, 48, 50, 49, 50, 50, 50, 51, 50, 52, 50, 53, 50, 54, 50, 55, 50, 56, 50, 57, 51, 48, 51, 49, 51, 50, 51, 51, 51, 52, 51, 53, 51, 54, 51, 55, 51, 56, 51, 57, 52, 48, 52, 49, 52, 50, 52, 51, 52, 52, 52, 53, 52, 54, 52, 55, 52, 56, 52, 57, 53, 48, 53, 49, 53, 50, 53, 51, 53, 52, 53, 53, 53, 54, 53, 55, 53, 56, 53, 57, 54, 48, 54, 49, 54, 50, 54, 51, 54, 52, 54, 53, 54, 54, 54, 55, 54, 56, 54, 57, 55, 48, 55, 49, 55, 50, 55, 51, 55, 52, 55, 53, 55, 54, 55, 55, 55, 56, 55, 57, 56, 48, 56, 49, 56, 50, 56, 51, 56, 52, 56, 53, 56, 54, 56, 55, 56, 56, 56, 57, 57, 48, 57, 49, 57, 50, 57, 51, 57, 52, 57, 53, 57, 54, 57, 55, 57, 56, 57, 57])) (.t 154)) none,
    .mk4 11 (some 156) (.ixaS 1 (.t 145) (.t 147)) none,
    .mk4 12 none (.store 1 (.t 156) (.t 153)) none,
    .mk4 13 (some 157) (.ixaS 1 (.t 148) (.t 150)) none,
    .mk4 14 none (.store 1 (.t 157) (.t 155)) none] [0, 4, 12]) (.region 0 [.mk4 0 (some 158) (.mv (.t 4)) none,
    .mk4 1 (some 159) (.bin .sub (.t 158) (.c (.i 2))) none,
    .mk4 2 (some 4) (.mv (.t 159)) none] [0, 4, 12])
def c71_2 : AC :=
  .seq (.region 0 [.mk4 0 (some 140) (.mv (.t 12)) none,
    .mk4 1 (some 141) (.bin .rem (.t 140) (.c (.int .u32 100))) none,
    .mk4 2 (some 142) (.bin .mul (.t 141) (.c (.int .u32 2))) none,
    .mk4 3 (some 16) (.mv (.t 142)) none] [0, 4, 12, 16]) (.seq (.region 0 [.mk4 0 (some 143) (.mv (.t 12)) none,
    .mk4 1 (some 144) (.bin .quo (.t 143) (.c (.int .u32 100))) none,
    .mk4 2 (some 12) (.mv (.t 144)) none] [0, 4, 12, 16]) (c71_1))
def c71_3 : AC :=
  .seq (.region 0 [.mk4 0 (some 123) (.mv (.t 0)) none,
    .mk4 1 (some 124) (.mv (.t 4)) none,
    .mk4 2 (some 125) (.bin .sub (.t 124) (.c (.i 3))) none,
    .mk4 3 (some 126) (.mv (.t 0)) none,
    .mk4 4 (some 127) (.mv (.t 4)) none,
    .mk4 5 (some 128) (.bin .sub (.t 127) (.c (.i 4))) none,
    .mk4 6 (some 129) (.mv (.t 14)) none,
    .mk4 7 (some 130) (.bin .add (.t 129) (.c (.int .u32 1))) none,
    .mk4 8 (some 131) (.ixStr (.c (.str [48, 48, 48, 49, 48, 50, 48, 51, 48, 52, 48, 53, 48, 54, 48, 55, 48, 56, 48, 57, 49, 48, 49, 49, 49, 50, 49, 51, 49, 52, 49, 53, 49, 54, 49, 55, 49, 56, 49, 57, 50, 48, 50, 49, 50, 50, 50, 51, 50, 52, 50, 53, 50, 54, 50, 55, 50, 56, 50, 57, 51, 48, 51, 49, 51, 50, 51, 51, 51, 52, 51, 53, 51, 54, 51, 55, 51, 56, 51, 57, 52, 48, 52, 49, 52, 50, 52, 51, 52, 52, 52, 53, 52, 54, 52, 55, 52, 56, 52, 57, 53, 48, 53, 49, 53, 50, 53, 51, 53, 52, 53, 53, 53, 54, 53, 55, 53, 56, 53, 57, 54, 48, 54, 49, 54, 50, 54, 51, 54, 52, 54, 53, 54, 54, 54, 55, 54, 56, 54, 57, 55, 48, 55, 49, 55, 50, 55, 51, 55, 52, 55, 53, 55, 54, 55, 55, 55, 56, 55, 57, 56, 48, 56, 49, 56, 50, 56, 51, 56, 52, 56, 53, 56, 54, 56, 55, 56, 56, 56, 57, 57, 48, 57, 49, 57, 50, 57, 51, 57, 52, 57, 53, 57, 54, 57, 55, 57, 56, 57, 57])) (.t 130)) none,
    .mk4 9 (some 132) (.mv (.t 14)) none,
    .mk4 10 (some 133) (.ixStr (.c (.str [48, 48, 48, 49, 48, 50, 48, 51, 48, 52, 48, 53, 48, 54, 48, 55, 48, 56, 48, 57, 49, 48, 49, 49, 49, 50, 49, 51, 49, 52, 49, 53, 49, 54, 49, 55, 49, 56, 49, 57, 50, 48, 50, 49, 50, 50, 50, 51, 50, 52, 50, 53, 50, 54, 50, 55, 50, 56, 50, 57, 51, 48, 51, 49, 51, 50, 51, 51, 51, 52, 51, 53, 51, 54, 51, 55, 51, 56, 51, 57, 52, 48, 52, 49, 52, 50, 52, 51, 52, 52, 52, 53, 52, 54, 52, 55, 52, 56, 52, 57, 53, 48, 53, 49, 53, 50, 53, 51, 53, 52, 53, 53, 53, 54, 53, 55, 53, 56, 53, 57, 54, 48, 54, 49, 54, 50, 54, 51, 54, 52, 54, 53, 54, 54, 54, 55, 54, 56, 54, 57, 55, 48, 55, 49, 55, 50, 55, 51, 55, 52, 55, 53, 55, 54, 55, 55, 55, 56, 55, 57, 56, 48, 56, 49, 56, 50, 56, 51, 56, 52, 56, 53, 56, 54, 56, 55, 56, 56, 56, 57, 57, 48, 57, 49, 57, 50, 57, 51, 57, 52, 57, 53, 57, 54, 57, 55, 57, 56, 57, 57])) (.t 132)) none,
    .mk4 11 (some 134) (.ixaS 1 (.t 123) (.t 125)) none,
    .mk4 12 none (.store 1 (.t 134) (.t 131)) none,
    .mk4 13 (some 135) (.ixaS 1 (.t 126) (.t 128)) none,
    .mk4 14 none (.store 1 (.t 135) (.t 133)) none] [0, 4, 12]) (.region 0 [.mk4 0 (some 136) (.mv (.t 4)) none,
    .mk4 1 (some 137) (.bin .sub (.t 136) (.c (.i 4))) none,
    .mk4 2 (some 4) (.mv (.t 137)) none] [0, 4, 12])
def c71_4 : AC :=
  .seq (.region 0 [.mk4 0 (some 110) (.mv (.t 0)) none,
    .mk4 1 (some 111) (.mv (.t 4)) none,
    .mk4 2 (some 112) (.bin .sub (.t 111) (.c (.i 1))) none,
    .mk4 3 (some 113) (.mv (.t 0)) none,
    .mk4 4 (some 114) (.mv (.t 4)) none,
    .mk4 5 (some 115) (.bin .sub (.t 114) (.c (.i 2))) none,
    .mk4 6 (some 116) (.mv (.t 15)) none,
    .mk4 7 (some 117) (.bin .add (.t 116) (.c (.int .u32 1))) none,
    .mk4 8 (some 118) (.ixStr (.c (.str [48, 48, 48, 49, 48, 50, 48, 51, 48, 52, 48, 53, 48, 54, 48, 55, 48, 56, 48, 57, 49, 48, 49, 49, 49, 50, 49, 51, 49, 52, 49, 53, 49, 54, 49, 55, 49, 56, 49, 57, 50, 48, 50, 49, 50, 50, 50, 51, 50, 52, 50, 53, 50, 54, 50, 55, 50, 56, 50, 57, 51, 48, 51, 49, 51, 50, 51, 51, 51, 52, 51, 53, 51, 54, 51, 55, 51, 56, 51, 57, 52, 48, 52, 49, 52, 50, 52, 51, 52, 52, 52, 53, 52, 54, 52, 55, 52, 56, 52, 57, 53, 48, 53, 49, 53, 50, 53, 51, 53, 52, 53, 53, 53, 54, 53, 55, 53, 56, 53, 57, 54, 48, 54, 49, 54, 50, 54, 51, 54, 52, 54, 53, 54, 54, 54, 55, 54, 56, 54, 57, 55, 48, 55, 49, 55, 50, 55, 51, 55, 52, 55, 53, 55, 54, 55, 55, 55, 56, 55, 57, 56, 48, 56, 49, 56, 50, 56, 51, 56, 52, 56, 53, 56, 54, 56, 55, 56, 56, 56, 57, 57, 48, 57, 49, 57, 50, 57, 51, 57, 52, 57, 53, 57, 54, 57, 55, 57, 56, 57, 57])) (.t 117)) none,
    .mk4 9 (some 119) (.mv (.t 15)) none,
    .mk4 10 (some 120) (.ixStr (.c (.str [48, 48, 48, 49, 48, 50, 48, 51, 48, 52, 48, 53, 48, 54, 48, 55, 48, 56, 48, 57, 49, 48, 49, 49, 49, 50, 49, 51, 49, 52, 49, 53, 49, 54, 49, 55, 49, 56, 49, 57, 50, 48, 50, 49, 50, 50, 50, 51, 50, 52, 50, 53, 50, 54, 50, 55, 50, 56, 50, 57, 51, 48, 51, 49, 51, 50, 51, 51, 51, 52, 51, 53, 51, 54, 51, 55, 51, 56, 51, 57, 52, 48, 52, 49, 52, 50, 52, 51, 52, 52, 52, 53, 52, 54, 52, 55, 52, 56, 52, 57, 53, 48, 53, 49, 53, 50, 53, 51, 53, 52, 53, 53, 53, 54, 53, 55, 53, 56, 53, 57, 54, 48, 54, 49, 54, 50, 54, 51, 54, 52, 54, 53, 54, 54, 54, 55, 54, 56, 54, 57, 55, 48, 55, 49, 55, 50, 55, 51, 55, 52, 55, 53, 55, 54, 55, 55, 55, 56, 55, 57, 56, 48, 56, 49, 56, 50, 56, 51, 56, 52, 56, 53, 56, 54, 56, 55, 56, 56, 56, 57, 57, 48, 57, 49, 57, 50, 57, 51, 57, 52, 57, 53, 57, 54, 57, 55, 57, 56, 57, 57])) (.t 119)) none,
    .mk4 11 (some 121) (.ixaS 1 (.t 110) (.t 112)) none,
    .mk4 12 none (.store 1 (.t 121) (.t 118)) none,
    .mk4 13 (some 122) (.ixaS 1 (.t 113) (.t 115)) none,
    .mk4 14 none (.store 1 (.t 122) (.t 120)) none] [0, 4, 12, 14]) (c71_3)
def c71_5 : AC :=
  .seq (.region 0 [.mk4 0 (some 104) (.mv (.t 13)) none,
    .mk4 1 (some 105) (.bin .quo (.t 104) (.c (.int .u32 100))) none,
    .mk4 2 (some 106) (.bin .mul (.t 105) (.c (.int .u32 2))) none,
    .mk4 3 (some 107) (.mv (.t 13)) none,
    .mk4 4 (some 108) (.bin .rem (.t 107) (.c (.int .u32 100))) none,
    .mk4 5 (some 109) (.bin .mul (.t 108) (.c (.int .u32 2))) none,
    .mk4 6 (some 14) (.mv (.t 106)) none,
    .mk4 7 (some 15) (.mv (.t 109)) none] [0, 4, 12, 14, 15]) (c71_4)
def c71_6 : AC :=
  .seq (.region 0 [.mk4 0 (some 100) (.mv (.t 12)) none,
    .mk4 1 (some 101) (.bin .rem (.t 100) (.c (.int .u32 10000))) none,
    .mk4 2 (some 13) (.mv (.t 101)) none] [0, 4, 12, 13]) (.seq (.region 0 [.mk4 0 (some 102) (.mv (.t 12)) none,
    .mk4 1 (some 103) (.bin .quo (.t 102) (.c (.int .u32 10000))) none,
    .mk4 2 (some 12) (.mv (.t 103)) none] [0, 4, 12, 13]) (c71_5))
def c71_7 : AC :=
  .seq (.seq (.region 0 [.mk4 0 (some 138) (.mv (.t 4)) none,
    .mk4 1 (some 139) (.bin .geq (.t 138) (.c (.i 2))) none] [0, 4, 12, 139]) (.cond (.t 139) (c71_2) (.skip))) (.seq (.region 0 [.mk4 0 (some 160) (.mv (.t 4)) none,
    .mk4 1 (some 161) (.bin .gtr (.t 160) (.c (.i 0))) none] [0, 12, 161]) (.cond (.t 161) (c71_0) (.skip)))
def c71_8 : AC :=
  .seq (.region 0 [.mk4 0 (some 81) (.mv (.t 0)) none,
    .mk4 1 (some 82) (.mv (.t 4)) none,
    .mk4 2 (some 83) (.bin .sub (.t 82) (.c (.i 7))) none,
    .mk4 3 (some 84) (.mv (.t 0)) none,
    .mk4 4 (some 85) (.mv (.t 4)) none,
    .mk4 5 (some 86) (.bin .sub (.t 85) (.c (.i 8))) none,
    .mk4 6 (some 87) (.mv (.t 10)) none,
    .mk4 7 (some 88) (.bin .add (.t 87) (.c (.int .u32 1))) none,
    .mk4 8 (some 89) (.ixStr (.c (.str [48, 48, 48, 49, 48, 50, 48, 51, 48, 52, 48, 53, 48, 54, 48, 55, 48, 56, 48, 57, 49, 48, 49, 49, 49, 50, 49, 51, 49, 52, 49, 53, 49, 54, 49, 55, 49, 56, 49, 57, 50, 48, 50, 49, 50, 50, 50, 51, 50, 52, 50, 53, 50, 54, 50, 55, 50, 56, 50, 57, 51, 48, 51, 49, 51, 50, 51, 51, 51, 52, 51, 53, 51, 54, 51, 55, 51, 56, 51, 57, 52, 48, 52, 49, 52, 50, 52, 51, 52, 52, 52, 53, 52, 54, 52, 55, 52, 56, 52, 57, 53, 48, 53, 49, 53, 50, 53, 51, 53, 52, 53, 53, 53, 54, 53, 55, 53, 56, 53, 57, 54, 48, 54, 49, 54, 50, 54, 51, 54, 52, 54, 53, 54, 54, 54, 55, 54, 56, 54, 57, 55, 48, 55, 49, 55, 50, 55, 51, 55, 52, 55, 53, 55, 54, 55, 55, 55, 56, 55, 57, 56, 48, 56, 49, 56, 50, 56, 51, 56, 52, 56, 53, 56, 54, 56, 55, 56, 56, 56, 57, 57, 48, 57, 49, 57, 50, 57, 51, 57, 52, 57, 53, 57, 54, 57, 55, 57, 56, 57, 57])) (.t 88)) none,
    .mk4 9 (some 90) (.mv (.t 10)) none,
    .mk4 10 (some 91) (.ixStr (.c (.str [48, 48, 48, 49, 48, 50, 48, 51, 48, 52, 48, 53, 48, 54, 48, 55, 48, 56, 48, 57, 49, 48, 49, 49, 49, 50, 49, 51, 49, 52, 49, 53, 49, 54, 49, 55, 49, 56, 49, 57, 50, 48, 50, 49, 50, 50, 50, 51, 50, 52, 50, 53, 50, 54, 50, 55, 50, 56, 50, 57, 51, 48, 51, 49, 51, 50, 51, 51, 51, 52, 51, 53, 51, 54, 51, 55, 51, 56, 51, 57, 52, 48, 52, 49, 52, 50, 52, 51, 52, 52, 52, 53, 52, 54, 52, 55, 52, 56, 52, 57, 53, 48, 53, 49, 53, 50, 53, 51, 53, 52, 53, 53, 53, 54, 53, 55, 53, 56, 53, 57, 54, 48, 54, 49, 54, 50, 54, 51, 54, 52, 54, 53, 54, 54, 54, 55, 54, 56, 54, 57, 55, 48, 55, 49, 55, 50, 55, 51, 55, 52, 55, 53, 55, 54, 55, 55, 55, 56, 55, 57, 56, 48, 56, 49, 56, 50, 56, 51, 56, 52, 56, 53, 56, 54, 56, 55, 56, 56, 56, 57, 57, 48, 57, 49, 57, 50, 57, 51, 57, 52, 57, 53, 57, 54, 57, 55, 57, 56, 57, 57])) (.t 90)) none,
    .mk4 11 (some 92) (.ixaS 1 (.t 81) (.t 83)) none,
    .mk4 12 none (.store 1 (.t 92) (.t 89)) none,
    .mk4 13 (some 93) (.ixaS 1 (.t 84) (.t 86)) none,
    .mk4 14 none (.store 1 (.t 93) (.t 91)) none] [0, 1, 4]) (.region 0 [.mk4 0 (some 94) (.mv (.t 4)) none,
    .mk4 1 (some 95) (.bin .sub (.t 94) (.c (.i 8))) none,
    .mk4 2 (some 4) (.mv (.t 95)) none] [0, 1, 4])
def c71_9 : AC :=
  .seq (.region 0 [.mk4 0 (some 68) (.mv (.t 0)) none,
    .mk4 1 (some 69) (.mv (.t 4)) none,
    .mk4 2 (some 70) (.bin .sub (.t 69) (.c (.i 5))) none,
    .mk4 3 (some 71) (.mv (.t 0)) none,
    .mk4 4 (some 72) (.mv (.t 4)) none,
    .mk4 5 (some 73) (.bin .sub (.t 72) (.c (.i 6))) none,
    .mk4 6 (some 74) (.mv (.t 11)) none,
    .mk4 7 (some 75) (.bin .add (.t 74) (.c (.int .u32 1))) none,
    .mk4 8 (some 76) (.ixStr (.c (.str [48, 48, 48, 49, 48, 50, 48, 51, 48, 52, 48, 53, 48, 54, 48, 55, 48, 56, 48, 57, 49, 48, 49, 49, 49, 50, 49, 51, 49, 52, 49, 53, 49, 54, 49, 55, 49, 56, 49, 57, 50, 48, 50, 49, 50, 50, 50, 51, 50, 52, 50, 53, 50, 54, 50, 55, 50, 56, 50, 57, 51, 48, 51, 49, 51, 50, 51, 51, 51, 52, 51, 53, 51, 54, 51, 55, 51, 56, 51, 57, 52, 48, 52, 49, 52, 50, 52, 51, 52, 52, 52, 53, 52, 54, 52, 55, 52, 56, 52, 57, 53, 48, 53, 49, 53, 50, 53, 51, 53, 52, 53, 53, 53, 54, 53, 55, 53, 56, 53, 57, 54, 48, 54, 49, 54, 50, 54, 51, 54, 52, 54, 53, 54, 54, 54, 55, 54, 56, 54, 57, 55, 48, 55, 49, 55, 50, 55, 51, 55, 52, 55, 53, 55, 54, 55, 55, 55, 56, 55, 57, 56, 48, 56, 49, 56, 50, 56, 51, 56, 52, 56, 53, 56, 54, 56, 55, 56, 56, 56, 57, 57, 48, 57, 49, 57, 50, 57, 51, 57, 52, 57, 53, 57, 54, 57, 55, 57, 56, 57, 57])) (.t 75)) none,
    .mk4 9 (some 77) (.mv (.t 11)) none,
    .mk4 10 (some 78) (.ixStr (.c (.str [48, 48, 48, 49, 48, 50, 48, 51, 48, 52, 48, 53, 48, 54, 48, 55, 48, 56, 48, 57, 49, 48, 49, 49, 49, 50, 49, 51, 49, 52, 49, 53, 49, 54, 49, 55, 49, 56, 49, 57, 50, 48, 50, 49, 50, 50, 50, 51, 50, 52, 50, 53, 50, 54, 50, 55, 50, 56, 50, 57, 51, 48, 51, 49, 51, 50, 51, 51, 51, 52, 51, 53, 51, 54, 51, 55, 51, 56, 51, 57, 52, 48, 52, 49, 52, 50, 52, 51, 52, 52, 52, 53, 52, 54, 52, 55, 52, 56, 52, 57, 53, 48, 53, 49, 53, 50, 53, 51, 53, 52, 53, 53, 53, 54, 53, 55, 53, 56, 53, 57, 54, 48, 54, 49, 54, 50, 54, 51, 54, 52, 54, 53, 54, 54, 54, 55, 54, 56, 54, 57, 55, 48, 55, 49, 55, 50, 55, 51, 55, 52, 55, 53, 55, 54, 55, 55, 55, 56, 55, 57, 56, 48, 56, 49, 56, 50, 56, 51, 56, 52, 56, 53, 56, 54, 56, 55, 56, 56, 56, 57, 57, 48, 57, 49, 57, 50, 57, 51, 57, 52, 57, 53, 57, 54, 57, 55, 57, 56, 57, 57])) (.t 77)) none,
    .mk4 11 (some 79) (.ixaS 1 (.t 68) (.t 70)) none,
    .mk4 12 none (.store 1 (.t 79) (.t 76)) none,
    .mk4 13 (some 80) (.ixaS 1 (.t 71) (.t 73)) none,
    .mk4 14 none (.store 1 (.t 80) (.t 78)) none] [0, 1, 4, 10]) (c71_8)
def c71_10 : AC :=
  .seq (.region 0 [.mk4 0 (some 55) (.mv (.t 0)) none,
    .mk4 1 (some 56) (.mv (.t 4)) none,
    .mk4 2 (some 57) (.bin .sub (.t 56) (.c (.i 3))) none,
    .mk4 3 (some 58) (.mv (.t 0)) none,
    .mk4 4 (some 59) (.mv (.t 4)) none,
    .mk4 5 (some 60) (.bin .sub (.t 59) (.c (.i 4))) none,
    .mk4 6 (some 61) (.mv (.t 8)) none,
    .mk4 7 (some 62) (.bin .add (.t 61) (.c (.int .u32 1))) none,
    .mk4 8 (some 63) (.ixStr (.c (.str [48, 48, 48, 49, 48, 50, 48, 51, 48, 52, 48, 53, 48, 54, 48, 55, 48, 56, 48, 57, 49, 48, 49, 49, 49, 50, 49, 51, 49, 52, 49, 53, 49, 54, 49, 55, 49, 56, 49, 57, 50, 48, 50, 49, 50, 50, 50, 51, 50, 52, 50, 53, 50, 54, 50, 55, 50, 56, 50, 57, 51, 48, 51, 49, 51, 50, 51, 51, 51, 52, 51, 53, 51, 54, 51, 55, 51, 56, 51, 57, 52, 48, 52, 49, 52, 50, 52, 51, 52, 52, 52, 53, 52, 54, 52, 55, 52, 56, 52, 57, 53, 48, 53, 49, 53, 50, 53, 51, 53, 52, 53, 53, 53, 54, 53, 55, 53, 56, 53, 57, 54, 48, 54, 49, 54, 50, 54, 51, 54, 52, 54, 53, 54, 54, 54, 55, 54, 56, 54, 57, 55, 48, 55, 49, 55, 50, 55, 51, 55, 52, 55, 53, 55, 54, 55, 55, 55, 56, 55, 57, 56, 48, 56, 49, 56, 50, 56, 51, 56, 52, 56, 53, 56, 54, 56, 55, 56, 56, 56, 57, 57, 48, 57, 49, 57, 50, 57, 51, 57, 52, 57, 53, 57, 54, 57, 55, 57, 56, 57, 57])) (.t 62)) none,
    .mk4 9 (some 64) (.mv (.t 8)) none,
    .mk4 10 (some 65) (.ixStr (.c (.str [48, 48, 48, 49, 48, 50, 48, 51, 48, 52, 48, 53, 48, 54, 48, 55, 48, 56, 48, 57, 49, 48, 49, 49, 49, 50, 49, 51, 49, 52, 49, 53, 49, 54, 49, 55, 49, 56, 49, 57, 50, 48, 50, 49, 50, 50, 50, 51, 50, 52, 50, 53, 50, 54, 50, 55, 50, 56, 50, 57, 51, 48, 51, 49, 51, 50, 51, 51, 51, 52, 51, 53, 51, 54, 51, 55, 51, 56, 51, 57, 52, 48, 52, 49, 52, 50, 52, 51, 52, 52, 52, 53, 52, 54, 52, 55, 52, 56, 52, 57, 53, 48, 53, 49, 53, 50, 53, 51, 53, 52, 53, 53, 53, 54, 53, 55, 53, 56, 53, 57, 54, 48, 54, 49, 54, 50, 54, 51, 54, 52, 54, 53, 54, 54, 54, 55, 54, 56, 54, 57, 55, 48, 55, 49, 55, 50, 55, 51, 55, 52, 55, 53, 55, 54, 55, 55, 55, 56, 55, 57, 56, 48, 56, 49, 56, 50, 56, 51, 56, 52, 56, 53, 56, 54, 56, 55, 56, 56, 56, 57, 57, 48, 57, 49, 57, 50, 57, 51, 57, 52, 57, 53, 57, 54, 57, 55, 57, 56, 57, 57])) (.t 64)) none,
    .mk4 11 (some 66) (.ixaS 1 (.t 55) (.t 57)) none,
    .mk4 12 none (.store 1 (.t 66) (.t 63)) none,
    .mk4 13 (some 67) (.ixaS 1 (.t 58) (.t 60)) none,
    .mk4 14 none (.store 1 (.t 67) (.t 65)) none] [0, 1, 4, 10, 11]) (c71_9)
def c71_11 : AC :=
  .seq (.region 0 [.mk4 0 (some 42) (.mv (.t 0)) none,
    .mk4 1 (some 43) (.mv (.t 4)) none,
    .mk4 2 (some 44) (.bin .sub (.t 43) (.c (.i 1))) none,
    .mk4 3 (some 45) (.mv (.t 0)) none,
    .mk4 4 (some 46) (.mv (.t 4)) none,
    .mk4 5 (some 47) (.bin .sub (.t 46) (.c (.i 2))) none,
    .mk4 6 (some 48) (.mv (.t 9)) none,
    .mk4 7 (some 49) (.bin .add (.t 48) (.c (.int .u32 1))) none,
    .mk4 8 (some 50) (.ixStr (.c (.str [48, 48, 48, 49, 48, 50, 48, 51, 48, 52, 48, 53, 48, 54, 48, 55, 48, 56, 48, 57, 49, 48, 49, 49, 49, 50, 49, 51, 49, 52, 49, 53, 49, 54, 49, 55, 49, 56, 49, 57, 50, 48, 50, 49, 50, 50, 50, 51, 50, 52, 50, 53, 50, 54, 50, 55, 50, 56, 50, 57, 51, 48, 51, 49, 51, 50, 51, 51, 51, 52, 51, 53, 51, 54, 51, 55, 51, 56, 51, 57, 52, 48, 52, 49, 52, 50, 52, 51, 52, 52, 52, 53, 52, 54, 52, 55, 52, 56, 52, 57, 53, 48, 53, 49, 53, 50, 53, 51, 53, 52, 53, 53, 53, 54, 53, 55, 53, 56, 53, 57, 54, 48, 54, 49, 54, 50, 54, 51, 54, 52, 54, 53, 54, 54, 54, 55, 54, 56, 54, 57, 55, 48, 55, 49, 55, 50, 55, 51, 55, 52, 55, 53, 55, 54, 55, 55, 55, 56, 55, 57, 56, 48, 56, 49, 56, 50, 56, 51, 56, 52, 56, 53, 56, 54, 56, 55, 56, 56, 56, 57, 57, 48, 57, 49, 57, 50, 57, 51, 57, 52, 57, 53, 57, 54, 57, 55, 57, 56, 57, 57])) (.t 49)) none,
    .mk4 9 (some 51) (.mv (.t 9)) none,
    .mk4 10 (some 52) (.ixStr (.c (.str [48, 48, 48, 49, 48, 50, 48, 51, 48, 52, 48, 53, 48, 54, 48, 55, 48, 56, 48, 57, 49, 48, 49, 49, 49, 50, 49, 51, 49, 52, 49, 53, 49, 54, 49, 55, 49, 56, 49, 57, 50, 48, 50, 49, 50, 50, 50, 51, 50, 52, 50, 53, 50, 54, 50, 55, 50, 56, 50, 57, 51, 48, 51, 49, 51, 50, 51, 51, 51, 52, 51, 53, 51, 54, 51, 55, 51, 56, 51, 57, 52, 48, 52, 49, 52, 50, 52, 51, 52, 52, 52, 53, 52, 54, 52, 55, 52, 56, 52, 57, 53, 48, 53, 49, 53, 50, 53, 51, 53, 52, 53, 53, 53, 54, 53, 55, 53, 56, 53, 57, 54, 48, 54, 49, 54, 50, 54, 51, 54, 52, 54, 53, 54, 54, 54, 55, 54, 56, 54, 57, 55, 48, 55, 49, 55, 50, 55, 51, 55, 52, 55, 53, 55, 54, 55, 55, 55, 56, 55, 57, 56, 48, 56, 49, 56, 50, 56, 51, 56, 52, 56, 53, 56, 54, 56, 55, 56, 56, 56, 57, 57, 48, 57, 49, 57, 50, 57, 51, 57, 52, 57, 53, 57, 54, 57, 55, 57, 56, 57, 57])) (.t 51)) none,
    .mk4 11 (some 53) (.ixaS 1 (.t 42) (.t 44)) none,
    .mk4 12 none (.store 1 (.t 53) (.t 50)) none,
    .mk4 13 (some 54) (.ixaS 1 (.t 45) (.t 47)) none,
    .mk4 14 none (.store 1 (.t 54) (.t 52)) none] [0, 1, 4, 8, 10, 11]) (c71_10)
def c71_12 : AC :=
  .seq (.region 0 [.mk4 0 (some 36) (.mv (.t 6)) none,
    .mk4 1 (some 37) (.bin .quo (.t 36) (.c (.int .u32 100))) none,
    .mk4 2 (some 38) (.bin .mul (.t 37) (.c (.int .u32 2))) none,
    .mk4 3 (some 39) (.mv (.t 6)) none,
    .mk4 4 (some 40) (.bin .rem (.t 39) (.c (.int .u32 100))) none,
    .mk4 5 (some 41) (.bin .mul (.t 40) (.c (.int .u32 2))) none,
    .mk4 6 (some 10) (.mv (.t 38)) none,
    .mk4 7 (some 11) (.mv (.t 41)) none] [0, 1, 4, 8, 9, 10, 11]) (c71_11)
def c71_13 : AC :=
  .seq (.region 0 [.mk4 0 (some 30) (.mv (.t 7)) none,
    .mk4 1 (some 31) (.bin .quo (.t 30) (.c (.int .u32 100))) none,
    .mk4 2 (some 32) (.bin .mul (.t 31) (.c (.int .u32 2))) none,
    .mk4 3 (some 33) (.mv (.t 7)) none,
    .mk4 4 (some 34) (.bin .rem (.t 33) (.c (.int .u32 100))) none,
    .mk4 5 (some 35) (.bin .mul (.t 34) (.c (.int .u32 2))) none,
    .mk4 6 (some 8) (.mv (.t 32)) none,
    .mk4 7 (some 9) (.mv (.t 35)) none] [0, 1, 4, 6, 8, 9]) (c71_12)
def c71_14 : AC :=
  .seq (.region 0 [.mk4 0 (some 26) (.mv (.t 5)) none,
    .mk4 1 (some 27) (.bin .quo (.t 26) (.c (.int .u32 10000))) none,
    .mk4 2 (some 28) (.mv (.t 5)) none,
    .mk4 3 (some 29) (.bin .rem (.t 28) (.c (.int .u32 10000))) none,
    .mk4 4 (some 6) (.mv (.t 27)) none,
    .mk4 5 (some 7) (.mv (.t 29)) none] [0, 1, 4, 6, 7]) (c71_13)
def c71_15 : AC :=
  .seq (.region 0 [.mk4 0 (some 21) (.mv (.t 1)) none,
    .mk4 1 (some 22) (.bin .rem (.t 21) (.c (.int .u64 100000000))) none,
    .mk4 2 (some 23) (.convInt .u32 (.t 22)) none,
    .mk4 3 (some 5) (.mv (.t 23)) none] [0, 1, 4, 5]) (.seq (.region 0 [.mk4 0 (some 24) (.mv (.t 1)) none,
    .mk4 1 (some 25) (.bin .quo (.t 24) (.c (.int .u64 100000000))) none,
    .mk4 2 (some 1) (.mv (.t 25)) none] [0, 1, 4, 5]) (c71_14))
def c71_16 : AC :=
  .seq (.region 0 [.mk4 0 (some 96) (.mv (.t 1)) none,
    .mk4 1 (some 97) (.convInt .u32 (.t 96)) none,
    .mk4 2 (some 12) (.mv (.t 97)) none] [0, 4, 12]) (.seq (.seq (.region 0 [.mk4 0 (some 98) (.mv (.t 4)) none,
    .mk4 1 (some 99) (.bin .geq (.t 98) (.c (.i 4))) none] [0, 4, 12, 99]) (.cond (.t 99) (c71_6) (.skip))) (c71_7))
def c71_17 : AC :=
  .seq (.region 0 [.mk4 0 (some 17) (.mv (.t 0)) none,
    .mk4 1 (some 18) (.lenL (.t 17)) none,
    .mk4 2 (some 4) (.mv (.t 18)) none] [0, 1, 4]) (.seq (.block 0 (.loop [0, 1, 4] (.seq (.seq (.region 0 [.mk4 0 (some 19) (.mv (.t 4)) none,
    .mk4 1 (some 20) (.bin .geq (.t 19) (.c (.i 8))) none] [0, 1, 4, 20]) (.cond (.t 20) (.skip) (.exit 0))) (.block 1 (c71_15))))) (c71_16))
def c71 : AFn := ⟨2, 167, [],
  (c71_17)⟩
def c72_0 : AC :=
  .cond (.t 94) (.seq (.region 0 [.mk4 0 (some 95) (.mv (.t 0)) none,
    .mk4 1 (some 96) (.mv (.t 13)) none,
    .mk4 2 (some 97) (.sliceA 65 1 (.t 12) (some (.t 96)) none none) none,
    .mk4 3 (some 98) (.append 1 1 (.t 95) (.t 97)) none,
    .mk4 4 (some 10) (.mv (.t 98)) none] [10, 11]) (.ret)) (.skip)
def c72_1 : AC :=
  .seq (.region 0 [.mk4 0 (some 90) (.mv (.t 13)) none,
    .mk4 1 (some 91) (.bin .sub (.t 90) (.c (.i 1))) none,
    .mk4 2 (some 13) (.mv (.t 91)) none] [0, 4, 10, 11, 12, 13]) (.region 0 [.mk4 0 (some 92) (.mv (.t 13)) none,
    .mk4 1 (some 93) (.ixaA 65 1 (.t 12) (.t 92)) none,
    .mk4 2 none (.store 1 (.t 93) (.c (.int .u8 45))) none] [0, 4, 10, 11, 12, 13])
def c72_2 : AC :=
  .seq (.seq (.region 0 [.mk4 0 (some 94) (.mv (.t 4)) none] [0, 10, 11, 12, 13, 94]) (c72_0)) (.seq (.region 0 [.mk4 0 (some 99) (.mv (.t 13)) none,
    .mk4 1 (some 100) (.sliceA 65 1 (.t 12) (some (.t 99)) none none) none,
    .mk4 2 (some 101) (.ofBytes (.t 100)) none,
    .mk4 3 (some 11) (.mv (.t 101)) none] [10, 11]) (.ret))
def c72_3 : AC :=
  .region 0 [.mk4 0 (some 60) (.mv (.t 13)) none,
    .mk4 1 (some 61) (.mv (.t 1)) none,
    .mk4 2 (some 62) (.ixStr (.c (.str [48, 49, 50, 51, 52, 53, 54, 55, 56, 57, 97, 98, 99, 100, 101, 102, 103, 104, 105, 106, 107, 108, 109, 110, 111, 112, 113, 114, 115, 116, 117, 118, 119, 120, 121, 122])) (.t 61)) none,
    .mk4 3 (some 63) (.ixaA 65 1 (.t 12) (.t 60)) none,
    .mk4 4 none (.store 1 (.t 63) (.t 62)) none] [0, 3, 4, 10, 11, 12, 13]
def c72_4 : AC :=
  .seq (.region 0 [.mk4 0 (some 49) (.mv (.t 13)) none,
    .mk4 1 (some 50) (.mv (.t 1)) none,
    .mk4 2 (some 51) (.mv (.t 16)) none,
    .mk4 3 (some 52) (.bin .and (.t 50) (.t 51)) none,
    .mk4 4 (some 53) (.ixStr (.c (.str [48, 49, 50, 51, 52, 53, 54, 55, 56, 57, 97, 98, 99, 100, 101, 102, 103, 104, 105, 106, 107, 108, 109, 110, 111, 112, 113, 114, 115, 116, 117, 118, 119, 120, 121, 122])) (.t 52)) none,
    .mk4 5 (some 54) (.ixaA 65 1 (.t 12) (.t 49)) none,
    .mk4 6 none (.store 1 (.t 54) (.t 53)) none] [0, 1, 3, 4, 10, 11, 12, 13, 14, 15, 16]) (.region 0 [.mk4 0 (some 55) (.mv (.t 1)) none,
    .mk4 1 (some 56) (.mv (.t 14)) none,
    .mk4 2 (some 57) (.bin .shr (.t 55) (.t 56)) none,
    .mk4 3 (some 1) (.mv (.t 57)) none] [0, 1, 3, 4, 10, 11, 12, 13, 14, 15, 16])
def c72_5 : AC :=
  .seq (.seq (.region 0 [.mk4 0 (some 44) (.mv (.t 1)) none,
    .mk4 1 (some 45) (.mv (.t 15)) none,
    .mk4 2 (some 46) (.bin .geq (.t 44) (.t 45)) none] [0, 1, 3, 4, 10, 11, 12, 13, 14, 15, 16, 46]) (.cond (.t 46) (.skip) (.exit 0))) (.block 1 (.seq (.region 0 [.mk4 0 (some 47) (.mv (.t 13)) none,
    .mk4 1 (some 48) (.bin .sub (.t 47) (.c (.i 1))) none,
    .mk4 2 (some 13) (.mv (.t 48)) none] [0, 1, 3, 4, 10, 11, 12, 13, 14, 15, 16]) (c72_4)))
def c72_6 : AC :=
  .seq (.region 0 [.mk4 0 (some 41) (.mv (.t 2)) none,
    .mk4 1 (some 42) (.convInt .u64 (.t 41)) none,
    .mk4 2 (some 43) (.bin .sub (.t 42) (.c (.int .u64 1))) none,
    .mk4 3 (some 16) (.mv (.t 43)) none] [0, 1, 3, 4, 10, 11, 12, 13, 14, 15, 16]) (.seq (.block 0 (.loop [0, 1, 3, 4, 10, 11, 12, 13, 14, 15, 16] (c72_5))) (.seq (.region 0 [.mk4 0 (some 58) (.mv (.t 13)) none,
    .mk4 1 (some 59) (.bin .sub (.t 58) (.c (.i 1))) none,
    .mk4 2 (some 13) (.mv (.t 59)) none] [0, 1, 3, 4, 10, 11, 12, 13]) (c72_3)))
def c72_7 : AC :=
  .region 0 [.mk4 0 (some 85) (.mv (.t 13)) none,
    .mk4 1 (some 86) (.mv (.t 1)) none,
    .mk4 2 (some 87) (.ixStr (.c (.str [48, 49, 50, 51, 52, 53, 54, 55, 56, 57, 97, 98, 99, 100, 101, 102, 103, 104, 105, 106, 107, 108, 109, 110, 111, 112, 113, 114, 115, 116, 117, 118, 119, 120, 121, 122])) (.t 86)) none,
    .mk4 3 (some 88) (.ixaA 65 1 (.t 12) (.t 85)) none,
    .mk4 4 none (.store 1 (.t 88) (.t 87)) none] [0, 3, 4, 10, 11, 12, 13]
def c72_8 : AC :=
  .seq (.region 0 [.mk4 0 (some 74) (.mv (.t 13)) none,
    .mk4 1 (some 75) (.mv (.t 1)) none,
    .mk4 2 (some 76) (.mv (.t 18)) none,
    .mk4 3 (some 77) (.mv (.t 17)) none,
    .mk4 4 (some 78) (.bin .mul (.t 76) (.t 77)) none,
    .mk4 5 (some 79) (.bin .sub (.t 75) (.t 78)) none,
    .mk4 6 (some 80) (.ixStr (.c (.str [48, 49, 50, 51, 52, 53, 54, 55, 56, 57, 97, 98, 99, 100, 101, 102, 103, 104, 105, 106, 107, 108, 109, 110, 111, 112, 113, 114, 115, 116, 117, 118, 119, 120, 121, 122])) (.t 79)) none,
    .mk4 7 (some 81) (.ixaA 65 1 (.t 12) (.t 74)) none,
    .mk4 8 none (.store 1 (.t 81) (.t 80)) none] [0, 3, 4, 10, 11, 12, 13, 17, 18]) (.region 0 [.mk4 0 (some 82) (.mv (.t 18)) none,
    .mk4 1 (some 1) (.mv (.t 82)) none] [0, 1, 3, 4, 10, 11, 12, 13, 17])
def c72_9 : AC :=
  .seq (.region 0 [.mk4 0 (some 69) (.mv (.t 13)) none,
    .mk4 1 (some 70) (.bin .sub (.t 69) (.c (.i 1))) none,
    .mk4 2 (some 13) (.mv (.t 70)) none] [0, 1, 3, 4, 10, 11, 12, 13, 17]) (.seq (.region 0 [.mk4 0 (some 71) (.mv (.t 1)) none,
    .mk4 1 (some 72) (.mv (.t 17)) none,
    .mk4 2 (some 73) (.bin .quo (.t 71) (.t 72)) none,
    .mk4 3 (some 18) (.mv (.t 73)) none] [0, 1, 3, 4, 10, 11, 12, 13, 17, 18]) (c72_8))
def c72_10 : AC :=
  .seq (.block 2 (.loop [0, 1, 3, 4, 10, 11, 12, 13, 17] (.seq (.seq (.region 0 [.mk4 0 (some 66) (.mv (.t 1)) none,
    .mk4 1 (some 67) (.mv (.t 17)) none,
    .mk4 2 (some 68) (.bin .geq (.t 66) (.t 67)) none] [0, 1, 3, 4, 10, 11, 12, 13, 17, 68]) (.cond (.t 68) (.skip) (.exit 2))) (.block 3 (c72_9))))) (.seq (.region 0 [.mk4 0 (some 83) (.mv (.t 13)) none,
    .mk4 1 (some 84) (.bin .sub (.t 83) (.c (.i 1))) none,
    .mk4 2 (some 13) (.mv (.t 84)) none] [0, 1, 3, 4, 10, 11, 12, 13]) (c72_7))
def c72_11 : AC :=
  .seq (.region 0 [.mk4 0 (some 35) (.mv (.t 2)) none,
    .mk4 1 (some 36) (.convInt .u64 (.t 35)) none,
    .mk4 2 (some 37) (.call 83 [(.t 36)]) none,
    .mk4 3 (some 38) (.convInt .u64 (.t 37)) none,
    .mk4 4 (some 14) (.mv (.t 38)) none] [0, 1, 2, 3, 4, 10, 11, 12, 13, 14]) (.seq (.region 0 [.mk4 0 (some 39) (.mv (.t 2)) none,
    .mk4 1 (some 40) (.convInt .u64 (.t 39)) none,
    .mk4 2 (some 15) (.mv (.t 40)) none] [0, 1, 2, 3, 4, 10, 11, 12, 13, 14, 15]) (c72_6))
def c72_12 : AC :=
  .seq (.seq (.region 0 [.mk4 0 (some 33) (.mv (.t 2)) none,
    .mk4 1 (some 34) (.call 82 [(.t 33)]) none] [0, 1, 2, 3, 4, 10, 11, 12, 13, 34]) (.cond (.t 34) (c72_11) (.seq (.region 0 [.mk4 0 (some 64) (.mv (.t 2)) none,
    .mk4 1 (some 65) (.convInt .u64 (.t 64)) none,
    .mk4 2 (some 17) (.mv (.t 65)) none] [0, 1, 3, 4, 10, 11, 12, 13, 17]) (c72_10)))) (.seq (.seq (.region 0 [.mk4 0 (some 89) (.mv (.t 3)) none] [0, 4, 10, 11, 12, 13, 89]) (.cond (.t 89) (c72_1) (.skip))) (c72_2))
def c72_13 : AC :=
  .seq (.region 0 [.mk4 0 (some 13) (.mv (.c (.i 65))) none] [0, 1, 2, 3, 4, 10, 11, 12, 13]) (.seq (.seq (.region 0 [.mk4 0 (some 30) (.mv (.t 3)) none] [0, 1, 2, 3, 4, 10, 11, 12, 13, 30]) (.cond (.t 30) (.region 0 [.mk4 0 (some 31) (.mv (.t 1)) none,
    .mk4 1 (some 32) (.un .neg (.t 31)) none,
    .mk4 2 (some 1) (.mv (.t 32)) none] [0, 1, 2, 3, 4, 10, 11, 12, 13]) (.skip))) (c72_12))
def c72_14 : AC :=
  .region 0 [.mk4 0 (some 29) (.mkIface 9 (.c (.str [115, 116, 114, 99, 111, 110, 118, 58, 32, 105, 108, 108, 101, 103, 97, 108, 32, 65, 112, 112, 101, 110, 100, 73, 110, 116, 47, 70, 111, 114, 109, 97, 116, 73, 110, 116, 32, 98, 97, 115, 101]))) none,
    .mk4 1 none (.fail) none] [0, 1, 2, 3, 4, 10, 11]
def c72_15 : AC :=
  .seq (.seq (.region 0 [.mk4 0 (some 19) (.mv (.t 2)) none,
    .mk4 1 (some 20) (.bin .lss (.t 19) (.c (.i 2))) none,
    .mk4 2 (some 21) (.mv (.t 20)) none,
    .mk4 3 (some 22) (.mv (.t 2)) (some (21, false)),
    .mk4 4 (some 23) (.bin .eql (.t 22) (.c (.i 10))) (some (21, false)),
    .mk4 5 (some 24) (.pick (.t 21) (.c (.bool true)) (.t 23)) none,
    .mk4 6 (some 25) (.mv (.t 24)) none,
    .mk4 7 (some 26) (.mv (.t 2)) (some (25, false)),
    .mk4 8 (some 27) (.bin .gtr (.t 26) (.c (.i 36))) (some (25, false)),
    .mk4 9 (some 28) (.pick (.t 25) (.c (.bool true)) (.t 27)) none] [0, 1, 2, 3, 4, 10, 11, 28]) (.cond (.t 28) (c72_14) (.skip))) (.seq (.region 0 [.mk4 0 (some 12) (.alloc 65 (List.replicate 65 (.int .u8 0 : V))) none] [0, 1, 2, 3, 4, 10, 11, 12]) (c72_13))
def c72 : AFn := ⟨5, 102, [.tmp 10, .tmp 11],
  (.seq (.region 0 [.mk4 0 (some 10) (.mv (.c (.nils))) none,
    .mk4 1 (some 11) (.mv (.c (.str []))) none] [0, 1, 2, 3, 4, 10, 11]) (c72_15))⟩
def c73_0 : AC :=
  .seq (.region 0 [.mk4 0 (some 35) (.ixaA 24 1 (.t 5) (.c (.i 0))) none,
    .mk4 1 none (.store 1 (.t 35) (.c (.int .u8 45))) none] [5, 7]) (.seq (.region 0 [.mk4 0 (some 36) (.mv (.t 7)) none,
    .mk4 1 (some 37) (.bin .add (.c (.i 1)) (.t 36)) none,
    .mk4 2 (some 38) (.sliceA 24 1 (.t 5) none (some (.t 37)) none) none,
    .mk4 3 (some 39) (.ofBytes (.t 38)) none,
    .mk4 4 (some 4) (.mv (.t 39)) none] [4]) (.ret))
def c73_1 : AC :=
  .seq (.seq (.region 0 [.mk4 0 (some 33) (.mv (.t 0)) none,
    .mk4 1 (some 34) (.bin .lss (.t 33) (.c (.i 0))) none] [5, 7, 34]) (.cond (.t 34) (c73_0) (.skip))) (.seq (.region 0 [.mk4 0 (some 40) (.mv (.t 7)) none,
    .mk4 1 (some 41) (.bin .add (.c (.i 1)) (.t 40)) none,
    .mk4 2 (some 42) (.sliceA 24 1 (.t 5) (some (.c (.i 1))) (some (.t 41)) none) none,
    .mk4 3 (some 43) (.ofBytes (.t 42)) none,
    .mk4 4 (some 4) (.mv (.t 43)) none] [4]) (.ret))
def c73_2 : AC :=
  .seq (.region 0 [.mk4 0 (some 28) (.mv (.t 7)) none,
    .mk4 1 (some 29) (.bin .add (.c (.i 1)) (.t 28)) none,
    .mk4 2 (some 30) (.sliceA 24 1 (.t 5) (some (.c (.i 1))) (some (.t 29)) none) none,
    .mk4 3 (some 31) (.mv (.t 6)) none,
    .mk4 4 (some 32) (.call 71 [(.t 30), (.t 31)]) none] [0, 5, 7]) (c73_1)
def c73_3 : AC :=
  .seq (.seq (.region 0 [.mk4 0 (some 22) (.mv (.t 0)) none,
    .mk4 1 (some 23) (.bin .lss (.t 22) (.c (.i 0))) none] [0, 5, 6, 23]) (.cond (.t 23) (.region 0 [.mk4 0 (some 24) (.mv (.t 6)) none,
    .mk4 1 (some 25) (.un .neg (.t 24)) none,
    .mk4 2 (some 6) (.mv (.t 25)) none] [0, 5, 6]) (.skip))) (.seq (.region 0 [.mk4 0 (some 26) (.mv (.t 6)) none,
    .mk4 1 (some 27) (.call 70 [(.t 26)]) none,
    .mk4 2 (some 7) (.mv (.t 27)) none] [0, 5, 6, 7]) (c73_2))
def c73_4 : AC :=
  .seq (.seq (.region 0 [.mk4 0 (some 12) (.mv (.t 0)) none,
    .mk4 1 (some 13) (.bin .leq (.c (.i 0)) (.t 12)) none,
    .mk4 2 (some 14) (.mv (.t 13)) none,
    .mk4 3 (some 15) (.mv (.t 0)) (some (14, true)),
    .mk4 4 (some 16) (.bin .lss (.t 15) (.c (.i 100))) (some (14, true)),
    .mk4 5 (some 17) (.pick (.t 14) (.t 16) (.c (.bool false))) none] [0, 17]) (.cond (.t 17) (.seq (.region 0 [.mk4 0 (some 18) (.mv (.t 0)) none,
    .mk4 1 (some 19) (.call 69 [(.t 18)]) none,
    .mk4 2 (some 4) (.mv (.t 19)) none] [4]) (.ret)) (.skip))) (.seq (.region 0 [.mk4 0 (some 5) (.alloc 24 (List.replicate 24 (.int .u8 0 : V))) none] [0, 5]) (.seq (.region 0 [.mk4 0 (some 20) (.mv (.t 0)) none,
    .mk4 1 (some 21) (.convInt .u64 (.t 20)) none,
    .mk4 2 (some 6) (.mv (.t 21)) none] [0, 5, 6]) (c73_3)))
def c73_5 : AC :=
  .seq (.region 0 [.mk4 0 (some 45) (.mv (.t 0)) none,
    .mk4 1 (some 46) (.convInt .u64 (.t 45)) none,
    .mk4 2 (some 47) (.mv (.t 1)) none,
    .mk4 3 (some 48) (.mv (.t 0)) none,
    .mk4 4 (some 49) (.bin .lss (.t 48) (.c (.i 0))) none,
    .mk4 5 (some 50) (.call 72 [(.c (.nils)), (.t 46), (.t 47), (.t 49), (.c (.bool false))]) none,
    .mk4 6 (some 44) (.mv (.t 50)) none,
    .mk4 7 (some 51) (.extract (.t 44) 0) none,
    .mk4 8 (some 52) (.extract (.t 44) 1) none,
    .mk4 9 (some 8) (.mv (.t 51)) none,
    .mk4 10 (some 9) (.mv (.t 52)) none] [9]) (.seq (.region 0 [.mk4 0 (some 53) (.mv (.t 9)) none,
    .mk4 1 (some 4) (.mv (.t 53)) none] [4]) (.ret))
def c73 : AFn := ⟨2, 54, [.tmp 4],
  (.seq (.region 0 [.mk4 0 (some 4) (.mv (.c (.str []))) none] [0, 1]) (.seq (.seq (.region 0 [.mk4 0 (some 10) (.mv (.t 1)) none,
    .mk4 1 (some 11) (.bin .eql (.t 10) (.c (.i 10))) none] [0, 1, 11]) (.cond (.t 11) (c73_4) (.skip))) (c73_5)))⟩
def c74_0 : AC :=
  .seq (.region 0 [.mk4 0 (some 3) (.box 1 (.t 0)) none,
    .mk4 1 (some 4) (.box 1 (.t 1)) none,
    .mk4 2 (some 5) (.box 1 (.t 2)) none,
    .mk4 3 (some 6) (.mv (.c (.nilfn))) none] [3, 4, 5]) (.seq (.region 0 [.mk4 0 (some 7) (.mkClo 84 [(.t 5), (.t 4), (.t 3)]) none,
    .mk4 1 (some 6) (.mv (.t 7)) none] [6]) (.ret))
def c74 : AFn := ⟨3, 8, [.tmp 6],
  (c74_0)⟩
def c77_0 : AC :=
  .seq (.region 0 [.mk4 0 (some 3) (.mv (.t 0)) none,
    .mk4 1 (some 4) (.bin .geq (.t 3) (.c (.i 1))) none,
    .mk4 2 (some 5) (.mv (.t 4)) none,
    .mk4 3 (some 6) (.mv (.t 0)) (some (5, true)),
    .mk4 4 (some 7) (.bin .leq (.t 6) (.c (.i 31))) (some (5, true)),
    .mk4 5 (some 8) (.pick (.t 5) (.t 7) (.c (.bool false))) none,
    .mk4 6 (some 2) (.mv (.t 8)) none] [2]) (.ret)
def c77 : AFn := ⟨1, 9, [.tmp 2],
  (.seq (.region 0 [.mk4 0 (some 2) (.mv (.c (.bool false))) none] [0]) (c77_0))⟩
def c78 : AFn := ⟨1, 4, [.tmp 2],
  (.seq (.region 0 [.mk4 0 (some 1) (.box 1 (.t 0)) none,
    .mk4 1 (some 2) (.mv (.c (.nilfn))) none] [1]) (.seq (.region 0 [.mk4 0 (some 3) (.mkClo 87 [(.t 1)]) none,
    .mk4 1 (some 2) (.mv (.t 3)) none] [2]) (.ret)))⟩
def c79 : AFn := ⟨1, 6, [.tmp 2],
  (.seq (.region 0 [.mk4 0 (some 2) (.mv (.c (.i 0))) none] [0]) (.seq (.region 0 [.mk4 0 (some 3) (.mv (.t 0)) none,
    .mk4 1 (some 4) (.bin .mul (.t 3) (.c (.i 78913))) none,
    .mk4 2 (some 5) (.bin .shr (.t 4) (.c (.int .u64 18))) none,
    .mk4 3 (some 2) (.mv (.t 5)) none] [2]) (.ret)))⟩
def c80_0 : AC :=
  .seq (.region 0 [.mk4 0 (some 15) (.mv (.t 0)) none,
    .mk4 1 (some 16) (.bin .shr (.t 15) (.c (.int .u64 8))) none,
    .mk4 2 (some 0) (.mv (.t 16)) none] [0, 2]) (.region 0 [.mk4 0 (some 17) (.mv (.t 2)) none,
    .mk4 1 (some 18) (.bin .add (.t 17) (.c (.i 8))) none,
    .mk4 2 (some 2) (.mv (.t 18)) none] [0, 2])
def c80_1 : AC :=
  .seq (.region 0 [.mk4 0 (some 19) (.mv (.t 2)) none,
    .mk4 1 (some 20) (.mv (.t 0)) none,
    .mk4 2 (some 21) (.convInt .u8 (.t 20)) none,
    .mk4 3 (some 22) (.ixStr (.c (.str [0, 1, 2, 2, 3, 3, 3, 3, 4, 4, 4, 4, 4, 4, 4, 4, 5, 5, 5, 5, 5, 5, 5, 5, 5, 5, 5, 5, 5, 5, 5, 5, 6, 6, 6, 6, 6, 6, 6, 6, 6, 6, 6, 6, 6, 6, 6, 6, 6, 6, 6, 6, 6, 6, 6, 6, 6, 6, 6, 6, 6, 6, 6, 6, 7, 7, 7, 7, 7, 7, 7, 7, 7, 7, 7, 7, 7, 7, 7, 7, 7, 7, 7, 7, 7, 7, 7, 7, 7, 7, 7, 7, 7, 7, 7, 7, 7, 7, 7, 7, 7, 7, 7, 7, 7, 7, 7, 7, 7, 7, 7, 7, 7, 7, 7, 7, 7, 7, 7, 7, 7, 7, 7, 7, 7, 7, 7, 7, 8, 8, 8, 8, 8, 8, 8, 8, 8, 8, 8, 8, 8, 8, 8, 8, 8, 8, 8, 8, 8, 8, 8, 8, 8, 8, 8, 8, 8, 8, 8, 8, 8, 8, 8, 8, 8, 8, 8, 8, 8, 8, 8, 8, 8, 8, 8, 8, 8, 8, 8, 8, 8, 8, 8, 8, 8, 8, 8, 8, 8, 8, 8, 8, 8, 8, 8, 8, 8, 8, 8, 8, 8, 8, 8, 8, 8, 8, 8, 8, 8, 8, 8, 8, 8, 8, 8, 8, 8, 8, 8, 8, 8, 8, 8, 8, 8, 8, 8, 8, 8, 8, 8, 8, 8, 8, 8, 8, 8, 8, 8, 8, 8, 8, 8, 8, 8, 8, 8, 8, 8, 8, 8, 8, 8, 8, 8, 8])) (.t 21)) none,
    .mk4 4 (some 23) (.convInt .i64 (.t 22)) none,
    .mk4 5 (some 24) (.bin .add (.t 19) (.t 23)) none,
    .mk4 6 (some 2) (.mv (.t 24)) none] [2]) (.ret)
def c80_2 : AC :=
  .seq (.region 0 [.mk4 0 (some 9) (.mv (.t 0)) none,
    .mk4 1 (some 10) (.bin .shr (.t 9) (.c (.int .u64 16))) none,
    .mk4 2 (some 0) (.mv (.t 10)) none] [0, 2]) (.region 0 [.mk4 0 (some 11) (.mv (.t 2)) none,
    .mk4 1 (some 12) (.bin .add (.t 11) (.c (.i 16))) none,
    .mk4 2 (some 2) (.mv (.t 12)) none] [0, 2])
def c80_3 : AC :=
  .seq (.seq (.region 0 [.mk4 0 (some 7) (.mv (.t 0)) none,
    .mk4 1 (some 8) (.bin .geq (.t 7) (.c (.int .u64 65536))) none] [0, 2, 8]) (.cond (.t 8) (c80_2) (.skip))) (.seq (.seq (.region 0 [.mk4 0 (some 13) (.mv (.t 0)) none,
    .mk4 1 (some 14) (.bin .geq (.t 13) (.c (.int .u64 256))) none] [0, 2, 14]) (.cond (.t 14) (c80_0) (.skip))) (c80_1))
def c80_4 : AC :=
  .seq (.seq (.region 0 [.mk4 0 (some 3) (.mv (.t 0)) none,
    .mk4 1 (some 4) (.bin .geq (.t 3) (.c (.int .u64 4294967296))) none] [0, 2, 4]) (.cond (.t 4) (.seq (.region 0 [.mk4 0 (some 5) (.mv (.t 0)) none,
    .mk4 1 (some 6) (.bin .shr (.t 5) (.c (.int .u64 32))) none,
    .mk4 2 (some 0) (.mv (.t 6)) none] [0]) (.region 0 [.mk4 0 (some 2) (.mv (.c (.i 32))) none] [0, 2])) (.skip))) (c80_3)
def c80 : AFn := ⟨1, 25, [.tmp 2],
  (.seq (.region 0 [.mk4 0 (some 2) (.mv (.c (.i 0))) none] [0, 2]) (c80_4))⟩
def c81 : AFn := ⟨1, 4, [.tmp 2],
  (.seq (.region 0 [.mk4 0 (some 2) (.mv (.c (.i 0))) none] [0]) (.seq (.seq (.region 0 [.mk4 0 (some 3) (.mv (.t 0)) none] [3]) (.cond (.t 3) (.seq (.region 0 [.mk4 0 (some 2) (.mv (.c (.i 1))) none] [2]) (.ret)) (.skip))) (.seq (.region 0 [.mk4 0 (some 2) (.mv (.c (.i 0))) none] [2]) (.ret))))⟩
def c82_0 : AC :=
  .seq (.region 0 [.mk4 0 (some 3) (.mv (.t 0)) none,
    .mk4 1 (some 4) (.mv (.t 0)) none,
    .mk4 2 (some 5) (.bin .sub (.t 4) (.c (.i 1))) none,
    .mk4 3 (some 6) (.bin .and (.t 3) (.t 5)) none,
    .mk4 4 (some 7) (.bin .eql (.t 6) (.c (.i 0))) none,
    .mk4 5 (some 2) (.mv (.t 7)) none] [2]) (.ret)
def c82 : AFn := ⟨1, 8, [.tmp 2],
  (.seq (.region 0 [.mk4 0 (some 2) (.mv (.c (.bool false))) none] [0]) (c82_0))⟩
def c83_0 : AC :=
  .seq (.cond (.c (.bool false)) (.seq (.region 0 [.mk4 0 (some 3) (.mv (.t 0)) none,
    .mk4 1 (some 4) (.convInt .u32 (.t 3)) none,
    .mk4 2 (some 5) (.call 88 [(.t 4)]) none,
    .mk4 3 (some 2) (.mv (.t 5)) none] [2]) (.ret)) (.skip)) (.seq (.region 0 [.mk4 0 (some 6) (.mv (.t 0)) none,
    .mk4 1 (some 7) (.call 89 [(.t 6)]) none,
    .mk4 2 (some 2) (.mv (.t 7)) none] [2]) (.ret))
def c83 : AFn := ⟨1, 8, [.tmp 2],
  (.seq (.region 0 [.mk4 0 (some 2) (.mv (.c (.i 0))) none] [0]) (c83_0))⟩
def c84_0 : AC :=
  .seq (.region 0 [.mk4 0 (some 35) (.load1 (.t 2)) none,
    .mk4 1 (some 36) (.mv (.t 6)) none,
    .mk4 2 (some 37) (.lenL (.t 36)) none,
    .mk4 3 (some 38) (.bin .add (.t 35) (.t 37)) none,
    .mk4 4 none (.store 1 (.t 2) (.t 38)) none] [0, 1, 2, 3, 6]) (.region 0 [.mk4 0 (some 39) (.load1 (.t 1)) none,
    .mk4 1 (some 40) (.mv (.t 6)) none,
    .mk4 2 (some 41) (.lenL (.t 40)) none,
    .mk4 3 (some 42) (.bin .sub (.t 39) (.t 41)) none,
    .mk4 4 none (.store 1 (.t 1) (.t 42)) none] [0, 1, 2, 3])
def c84_1 : AC :=
  .seq (.region 0 [.mk4 0 (some 16) (.load1 (.t 3)) none,
    .mk4 1 (some 17) (.nilck (.t 16)) none,
    .mk4 2 (some 18) (.faddr 0 (.t 17)) none,
    .mk4 3 (some 19) (.load1 (.t 18)) none,
    .mk4 4 (some 20) (.mv (.t 5)) none,
    .mk4 5 (some 21) (.mv (.t 5)) none,
    .mk4 6 (some 22) (.load1 (.t 1)) none,
    .mk4 7 (some 23) (.bin .add (.t 21) (.t 22)) none,
    .mk4 8 (some 24) (.load1 (.t 3)) none,
    .mk4 9 (some 25) (.nilck (.t 24)) none,
    .mk4 10 (some 26) (.faddr 0 (.t 25)) none,
    .mk4 11 (some 27) (.load1 (.t 26)) none,
    .mk4 12 (some 28) (.lenL (.t 27)) none,
    .mk4 13 (some 29) (.minI [(.t 23), (.t 28)]) none,
    .mk4 14 (some 30) (.slice 1 (.t 19) (some (.t 20)) (some (.t 29)) none) none,
    .mk4 15 (some 6) (.mv (.t 30)) none] [0, 1, 2, 3, 6]) (.seq (.seq (.region 0 [.mk4 0 (some 31) (.mv (.t 0)) none,
    .mk4 1 (some 32) (.mv (.t 6)) none,
    .mk4 2 (some 33) (.callv (.t 31) [(.t 32)]) none,
    .mk4 3 (some 34) (.un .not (.t 33)) none] [0, 1, 2, 3, 6, 34]) (.cond (.t 34) (.exit 0) (.skip))) (c84_0))
def c84_2 : AC :=
  .seq (.region 0 [.mk4 0 (some 9) (.load1 (.t 2)) none,
    .mk4 1 (some 10) (.load1 (.t 3)) none,
    .mk4 2 (some 11) (.nilck (.t 10)) none,
    .mk4 3 (some 12) (.faddr 0 (.t 11)) none,
    .mk4 4 (some 13) (.load1 (.t 12)) none,
    .mk4 5 (some 14) (.lenL (.t 13)) none,
    .mk4 6 (some 15) (.bin .rem (.t 9) (.t 14)) none,
    .mk4 7 (some 5) (.mv (.t 15)) none] [0, 1, 2, 3, 5]) (c84_1)
def c84 : AFn := ⟨4, 43, [],
  (.scope (.seq (.label 0) (.block 0 (.loop [0, 1, 2, 3] (.seq (.seq (.region 0 [.mk4 0 (some 7) (.load1 (.t 1)) none,
    .mk4 1 (some 8) (.bin .gtr (.t 7) (.c (.i 0))) none] [0, 1, 2, 3, 8]) (.cond (.t 8) (.skip) (.exit 0))) (.block 1 (c84_2)))))))⟩
def c87_0 : AC :=
  .seq (.region 0 [.mk4 0 (some 13) (.faddr 0 (.t 4)) none,
    .mk4 1 (some 14) (.load1 (.t 13)) none,
    .mk4 2 (some 15) (.un .not (.t 14)) none,
    .mk4 3 (some 16) (.mv (.t 15)) none,
    .mk4 4 (some 17) (.mv (.t 0)) (some (16, true)),
    .mk4 5 (some 18) (.mv (.t 3)) (some (16, true)),
    .mk4 6 (some 19) (.callv (.t 17) [(.t 18)]) (some (16, true)),
    .mk4 7 (some 20) (.un .not (.t 19)) (some (16, true)),
    .mk4 8 (some 21) (.pick (.t 16) (.t 20) (.c (.bool false))) none] [0, 8, 9, 21]) (.cond (.t 21) (.ret) (.skip))
def c87_1 : AC :=
  .seq (.block 1 (.seq (.region 0 [.mk4 0 (some 11) (.mv (.t 9)) none,
    .mk4 1 (some 12) (.ixA 96 3 (some 3) (.t 8) (.t 9)) none,
    .mk4 2 (some 4) (.alloc 3 [.bool false, .i 0, .i 0]) none,
    .mk4 3 (some 3) (.mv (.t 11)) none,
    .mk4 4 none (.store 3 (.t 4) (.t 12)) none] [0, 3, 4, 8, 9]) (c87_0))) (.region 0 [.mk4 0 (some 22) (.bin .add (.t 9) (.c (.i 1))) none,
    .mk4 1 (some 9) (.mv (.t 22)) none] [0, 8, 9])
def c87_2 : AC :=
  .seq (.region 0 [.mk4 0 (some 5) (.load1 (.t 1)) none,
    .mk4 1 (some 6) (.nilck (.t 5)) none,
    .mk4 2 (some 7) (.faddr 0 (.t 6)) none,
    .mk4 3 (some 8) (.loadN 288 (.t 7)) none,
    .mk4 4 (some 9) (.mv (.c (.i 0))) none] [0, 8, 9]) (.block 0 (.loop [0, 8, 9] (.seq (.region 0 [.mk4 0 (some 10) (.bin .lss (.t 9) (.c (.i 96))) none] [0, 8, 9, 10]) (.seq (.cond (.t 10) (.skip) (.exit 0)) (c87_1)))))
def c87 : AFn := ⟨2, 23, [],
  (c87_2)⟩
def c88_0 : AC :=
  .seq (.region 0 [.mk4 0 (some 5) (.mv (.t 0)) none,
    .mk4 1 (some 6) (.mv (.t 0)) none,
    .mk4 2 (some 7) (.un .neg (.t 6)) none,
    .mk4 3 (some 8) (.bin .and (.t 5) (.t 7)) none,
    .mk4 4 (some 9) (.bin .mul (.t 8) (.c (.int .u32 125613361))) none,
    .mk4 5 (some 10) (.bin .shr (.t 9) (.c (.int .u64 27))) none,
    .mk4 6 (some 11) (.ixaA 32 1 (.c (.p 4 0)) (.t 10)) none,
    .mk4 7 (some 12) (.load1 (.t 11)) none,
    .mk4 8 (some 13) (.convInt .i64 (.t 12)) none,
    .mk4 9 (some 2) (.mv (.t 13)) none] [2]) (.ret)
def c88 : AFn := ⟨1, 14, [.tmp 2],
  (.seq (.region 0 [.mk4 0 (some 2) (.mv (.c (.i 0))) none] [0]) (.seq (.seq (.region 0 [.mk4 0 (some 3) (.mv (.t 0)) none,
    .mk4 1 (some 4) (.bin .eql (.t 3) (.c (.int .u32 0))) none] [0, 4]) (.cond (.t 4) (.seq (.region 0 [.mk4 0 (some 2) (.mv (.c (.i 32))) none] [2]) (.ret)) (.skip))) (c88_0)))⟩
def c89_0 : AC :=
  .seq (.region 0 [.mk4 0 (some 5) (.mv (.t 0)) none,
    .mk4 1 (some 6) (.mv (.t 0)) none,
    .mk4 2 (some 7) (.un .neg (.t 6)) none,
    .mk4 3 (some 8) (.bin .and (.t 5) (.t 7)) none,
    .mk4 4 (some 9) (.bin .mul (.t 8) (.c (.int .u64 285870213051353865))) none,
    .mk4 5 (some 10) (.bin .shr (.t 9) (.c (.int .u64 58))) none,
    .mk4 6 (some 11) (.ixaA 64 1 (.c (.p 5 0)) (.t 10)) none,
    .mk4 7 (some 12) (.load1 (.t 11)) none,
    .mk4 8 (some 13) (.convInt .i64 (.t 12)) none,
    .mk4 9 (some 2) (.mv (.t 13)) none] [2]) (.ret)
def c89 : AFn := ⟨1, 14, [.tmp 2],
  (.seq (.region 0 [.mk4 0 (some 2) (.mv (.c (.i 0))) none] [0]) (.seq (.seq (.region 0 [.mk4 0 (some 3) (.mv (.t 0)) none,
    .mk4 1 (some 4) (.bin .eql (.t 3) (.c (.int .u64 0))) none] [0, 4]) (.cond (.t 4) (.seq (.region 0 [.mk4 0 (some 2) (.mv (.c (.i 64))) none] [2]) (.ret)) (.skip))) (c89_0)))⟩
def prog : Prog := { fns := [(4, c4), (5, c5), (13, c13), (14, c14), (15, c15), (16, c16), (17, c17), (18, c18), (25, c25), (26, c26), (27, c27), (28, c28), (29, c29), (30, c30), (31, c31), (32, c32), (33, c33), (34, c34), (35, c35), (43, c43), (44, c44), (45, c45), (46, c46), (47, c47), (48, c48), (49, c49), (50, c50), (51, c51), (52, c52), (53, c53), (54, c54), (55, c55), (57, c57), (59, c59), (61, c61), (62, c62), (63, c63), (64, c64), (65, c65), (66, c66), (67, c67), (68, c68), (69, c69), (70, c70), (71, c71), (72, c72), (73, c73), (74, c74), (77, c77), (78, c78), (79, c79), (80, c80), (81, c81), (82, c82), (83, c83), (84, c84), (87, c87), (88, c88), (89, c89)], prims := [] }
def cx : Cx := ⟨[(2, ⟨.int .i64, 1, 8, (some (.i 0)), false⟩),
  (3, ⟨.int .i64, 1, 8, (some (.i 0)), false⟩),
  (4, ⟨.bool, 1, 1, (some (.bool false)), false⟩),
  (5, ⟨.int .u8, 1, 1, (some (.int .u8 0)), false⟩),
  (9, ⟨.str, 1, 16, (some (.str [])), false⟩),
  (22, ⟨.slice 3, 1, 24, (some (.nils)), false⟩),
  (23, ⟨.ptr 52, 1, 8, (some (.ptr none)), false⟩),
  (26, ⟨.int .i64, 1, 8, (some (.i 0)), false⟩),
  (36, ⟨.slice 38, 1, 24, (some (.nils)), false⟩),
  (38, ⟨.int .u64, 1, 8, (some (.int .u64 0)), false⟩),
  (42, ⟨.slice 9, 1, 24, (some (.nils)), false⟩),
  (45, ⟨.ptr 89, 1, 8, (some (.ptr none)), false⟩),
  (48, ⟨.struct [(0, 4), (1, 3), (2, 3)], 3, 24, (some (.agg [.bool false, .i 0, .i 0])), false⟩),
  (49, ⟨.array 96 48, 288, 2304, (some (.agg ((List.replicate 96 ([.bool false, .i 0, .i 0] : List V)).flatten))), false⟩),
  (50, ⟨.slice 82, 1, 24, (some (.nils)), false⟩),
  (52, ⟨.struct [(0, 49), (288, 50), (289, 45), (290, 38), (291, 48)], 294, 2368, (some (.agg ((List.replicate 96 ([.bool false, .i 0, .i 0] : List V)).flatten ++ [.nils, .ptr none, .int .u64 0, .bool false, .i 0, .i 0]))), false⟩),
  (69, ⟨.slice 5, 1, 24, (some (.nils)), false⟩),
  (71, ⟨.struct [(0, 4), (1, 4), (2, 4), (3, 4), (4, 4), (5, 38), (6, 38)], 7, 24, (some (.agg [.bool false, .bool false, .bool false, .bool false, .bool false, .int .u64 0, .int .u64 0])), false⟩),
  (76, ⟨.ptr 154, 1, 8, (some (.ptr none)), false⟩),
  (78, ⟨.struct [(0, 3), (1, 3), (2, 76), (3, 4), (4, 4), (5, 38), (6, 38)], 7, 48, (some (.agg [.i 0, .i 0, .ptr none, .bool false, .bool false, .int .u64 0, .int .u64 0])), false⟩),
  (79, ⟨.array 2 78, 14, 96, (some (.agg [.i 0, .i 0, .ptr none, .bool false, .bool false, .int .u64 0, .int .u64 0, .i 0, .i 0, .ptr none, .bool false, .bool false, .int .u64 0, .int .u64 0])), false⟩),
  (81, ⟨.struct [(0, 79), (14, 4), (15, 3), (16, 22)], 17, 136, (some (.agg [.i 0, .i 0, .ptr none, .bool false, .bool false, .int .u64 0, .int .u64 0, .i 0, .i 0, .ptr none, .bool false, .bool false, .int .u64 0, .int .u64 0, .bool false, .i 0, .nils])), false⟩),
  (82, ⟨.ptr 81, 1, 8, (some (.ptr none)), false⟩),
  (86, ⟨.array 32 4, 32, 32, (some (.agg (List.replicate 32 (.bool false : V)))), false⟩),
  (87, ⟨.array 32 3, 32, 256, (some (.agg (List.replicate 32 (.i 0 : V)))), false⟩),
  (89, ⟨.struct [(0, 86), (32, 87)], 64, 288, (some (.agg (List.replicate 32 (.bool false : V) ++ List.replicate 32 (.i 0 : V)))), false⟩),
  (125, ⟨.ptr 127, 1, 8, (some (.ptr none)), false⟩),
  (127, ⟨.struct [(0, 125), (1, 69)], 2, 32, (some (.agg [.ptr none, .nils])), false⟩),
  (154, ⟨.struct [(0, 69), (1, 3), (2, 3), (3, 38), (4, 38), (5, 4)], 6, 64, (some (.agg [.nils, .i 0, .i 0, .int .u64 0, .int .u64 0, .bool false])), false⟩),
  (155, ⟨.array 24 5, 24, 24, (some (.agg (List.replicate 24 (.int .u8 0 : V)))), false⟩),
  (161, ⟨.int .u64, 1, 8, (some (.int .u64 0)), false⟩),
  (170, ⟨.array 20 38, 20, 160, (some (.agg (List.replicate 20 (.int .u64 0 : V)))), false⟩),
  (171, ⟨.int .u32, 1, 4, (some (.int .u32 0)), false⟩),
  (172, ⟨.array 65 5, 65, 65, (some (.agg (List.replicate 65 (.int .u8 0 : V)))), false⟩),
  (178, ⟨.array 32 5, 32, 32, (some (.agg (List.replicate 32 (.int .u8 0 : V)))), false⟩),
  (179, ⟨.array 64 5, 64, 64, (some (.agg (List.replicate 64 (.int .u8 0 : V)))), false⟩)], [2, 4, 5]⟩
def lit_roundhouse_flag_words : List V := [.str [116, 105, 109, 101, 111, 117, 116], .str [114, 101, 97, 100], .str [119, 114, 105, 116, 101], .str [115, 105, 103, 110, 97, 108], .str [112, 101, 114, 115, 105, 115, 116], .str [101, 100, 103, 101], .str [101, 100, 103, 101], .str [98, 105, 103], .str [115, 105, 103, 110, 97, 108, 115], .str [99, 104, 97, 110, 103, 101, 115], .str [], .str [], .str [115, 101, 108, 101, 99, 116], .str [112, 111, 108, 108], .str [101, 112, 111, 108, 108], .str [107, 113, 117, 101, 117, 101], .str [], .str []]
def lit_roundhouse_flag_has : List V := [.i 0, .i 2, .i 11, .i 15]
def lit_math_bits_deBruijn32tab : List V := [.int .u8 0, .int .u8 1, .int .u8 28, .int .u8 2, .int .u8 29, .int .u8 14, .int .u8 24, .int .u8 3, .int .u8 30, .int .u8 22, .int .u8 20, .int .u8 15, .int .u8 25, .int .u8 17, .int .u8 4, .int .u8 8, .int .u8 31, .int .u8 27, .int .u8 13, .int .u8 23, .int .u8 21, .int .u8 19, .int .u8 16, .int .u8 7, .int .u8 26, .int .u8 12, .int .u8 18, .int .u8 6, .int .u8 11, .int .u8 5, .int .u8 10, .int .u8 9]
def lit_math_bits_deBruijn64tab : List V := [.int .u8 0, .int .u8 1, .int .u8 56, .int .u8 2, .int .u8 57, .int .u8 49, .int .u8 28, .int .u8 3, .int .u8 61, .int .u8 58, .int .u8 42, .int .u8 50, .int .u8 38, .int .u8 29, .int .u8 17, .int .u8 4, .int .u8 62, .int .u8 47, .int .u8 59, .int .u8 36, .int .u8 45, .int .u8 43, .int .u8 51, .int .u8 22, .int .u8 53, .int .u8 39, .int .u8 33, .int .u8 30, .int .u8 24, .int .u8 18, .int .u8 12, .int .u8 5, .int .u8 63, .int .u8 55, .int .u8 48, .int .u8 27, .int .u8 60, .int .u8 41, .int .u8 37, .int .u8 16, .int .u8 46, .int .u8 35, .int .u8 44, .int .u8 21, .int .u8 52, .int .u8 32, .int .u8 23, .int .u8 11, .int .u8 54, .int .u8 26, .int .u8 40, .int .u8 15, .int .u8 34, .int .u8 20, .int .u8 31, .int .u8 10, .int .u8 25, .int .u8 14, .int .u8 19, .int .u8 9, .int .u8 13, .int .u8 8, .int .u8 7, .int .u8 6]
def lit_internal_strconv_uint64pow10 : List V := [.int .u64 1, .int .u64 10, .int .u64 100, .int .u64 1000, .int .u64 10000, .int .u64 100000, .int .u64 1000000, .int .u64 10000000, .int .u64 100000000, .int .u64 1000000000, .int .u64 10000000000, .int .u64 100000000000, .int .u64 1000000000000, .int .u64 10000000000000, .int .u64 100000000000000, .int .u64 1000000000000000, .int .u64 10000000000000000, .int .u64 100000000000000000, .int .u64 1000000000000000000, .int .u64 10000000000000000000]
namespace F
abbrev roundhouselaw11_WorldTicks : Nat := 4
abbrev world_New : Nat := 5
abbrev roundhouselaw11_alive : Nat := 13
abbrev world_World_Now : Nat := 14
abbrev world_World_Pass : Nat := 15
abbrev roundhouseref11_Same : Nat := 16
abbrev world_World_Image : Nat := 17
abbrev sigs_New : Nat := 18
abbrev world_World_Outer : Nat := 25
abbrev world_World_Put : Nat := 26
abbrev world_World_Ready : Nat := 27
abbrev world_World_Read : Nat := 28
abbrev world_World_none : Nat := 29
abbrev strconv_FormatUint : Nat := 30
abbrev strconv_Itoa : Nat := 31
abbrev world_end_words : Nat := 32
abbrev strings_Join : Nat := 33
abbrev sigs_Sigs_Handled : Nat := 34
abbrev sigs_Sigs_Count : Nat := 35
abbrev world_both : Nat := 43
abbrev world_World_make : Nat := 44
abbrev world_World_outer : Nat := 45
abbrev world_wire_put : Nat := 46
abbrev world_World_find : Nat := 47
abbrev ring_Ring_Len : Nat := 48
abbrev world_wire_silent : Nat := 49
abbrev ring_Ring_Room : Nat := 50
abbrev world_wire_take : Nat := 51
abbrev internal_strconv_FormatUint : Nat := 52
abbrev internal_strconv_Itoa : Nat := 53
abbrev world_hex : Nat := 54
abbrev ring_Ring_Look : Nat := 55
abbrev strings_Builder_WriteString : Nat := 57
abbrev sigs_Sigs_may : Nat := 59
abbrev ring_New : Nat := 61
abbrev world_capacity : Nat := 62
abbrev world_World_numbers : Nat := 63
abbrev world_World_open : Nat := 64
abbrev ring_Ring_Put : Nat := 65
abbrev world_wire_came : Nat := 66
abbrev ring_Ring_none : Nat := 67
abbrev ring_Ring_Take : Nat := 68
abbrev internal_strconv_small : Nat := 69
abbrev internal_strconv_numDigits : Nat := 70
abbrev internal_strconv_formatBase10 : Nat := 71
abbrev internal_strconv_formatBits : Nat := 72
abbrev internal_strconv_FormatInt : Nat := 73
abbrev ring_Ring_pieces : Nat := 74
abbrev sigs_is : Nat := 77
abbrev world_World_free : Nat := 78
abbrev internal_strconv_log10Pow2 : Nat := 79
abbrev math_bits_Len64 : Nat := 80
abbrev internal_strconv_bool2_int : Nat := 81
abbrev internal_strconv_isPowerOfTwo : Nat := 82
abbrev math_bits_TrailingZeros : Nat := 83
abbrev ring_Ring_pieces_1 : Nat := 84
abbrev world_World_free_1 : Nat := 87
abbrev math_bits_TrailingZeros32 : Nat := 88
abbrev math_bits_TrailingZeros64 : Nat := 89
end F
end Am.Sigs
