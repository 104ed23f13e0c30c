/- The code of roundhouselaw21.DriverMakes and of all that they reach, as the abstract machine takes it: printed by a program. -/
import Derived.Test.YtnebbcobonadaaaDoorMatch
set_option maxRecDepth 100000
namespace Am.Sigs
open Am Go
def c3_0 : AC :=
  .seq (.region 0 [.mk4 0 (some 76) (.mv (.t 12)) none,
    .mk4 1 (some 77) (.call 9 [(.t 76)]) none,
    .mk4 2 (some 78) (.mv (.t 14)) none,
    .mk4 3 (some 79) (.bin .eql (.t 77) (.t 78)) none,
    .mk4 4 (some 80) (.mv (.t 79)) none,
    .mk4 5 (some 81) (.mv (.t 16)) (some (80, true)),
    .mk4 6 (some 82) (.call 9 [(.t 81)]) (some (80, true)),
    .mk4 7 (some 83) (.mv (.t 18)) (some (80, true)),
    .mk4 8 (some 84) (.bin .eql (.t 82) (.t 83)) (some (80, true)),
    .mk4 9 (some 85) (.pick (.t 80) (.t 84) (.c (.bool false))) none,
    .mk4 10 (some 86) (.mv (.t 85)) none,
    .mk4 11 (some 87) (.mv (.t 12)) (some (86, true)),
    .mk4 12 (some 88) (.call 10 [(.t 87)]) (some (86, true)),
    .mk4 13 (some 89) (.mv (.t 14)) (some (86, true)),
    .mk4 14 (some 90) (.call 11 [(.t 89)]) (some (86, true)),
    .mk4 15 (some 91) (.bin .eql (.t 88) (.t 90)) (some (86, true)),
    .mk4 16 (some 92) (.pick (.t 86) (.t 91) (.c (.bool false))) none,
    .mk4 17 (some 93) (.mv (.t 92)) none,
    .mk4 18 (some 94) (.mv (.t 16)) (some (93, true)),
    .mk4 19 (some 95) (.call 10 [(.t 94)]) (some (93, true)),
    .mk4 20 (some 96) (.mv (.t 18)) (some (93, true)),
    .mk4 21 (some 97) (.call 11 [(.t 96)]) (some (93, true)),
    .mk4 22 (some 98) (.bin .eql (.t 95) (.t 97)) (some (93, true)),
    .mk4 23 (some 99) (.pick (.t 93) (.t 98) (.c (.bool false))) none,
    .mk4 24 (some 10) (.mv (.t 99)) none] [10]) (.ret)
def c3_1 : AC :=
  .seq (.seq (.region 0 [.mk4 0 (some 54) (.mv (.t 13)) none,
    .mk4 1 (some 55) (.mv (.t 15)) none,
    .mk4 2 (some 56) (.bin .neq (.t 54) (.t 55)) none,
    .mk4 3 (some 57) (.mv (.t 56)) none,
    .mk4 4 (some 58) (.mv (.t 17)) (some (57, false)),
    .mk4 5 (some 59) (.mv (.t 19)) (some (57, false)),
    .mk4 6 (some 60) (.bin .neq (.t 58) (.t 59)) (some (57, false)),
    .mk4 7 (some 61) (.pick (.t 57) (.c (.bool true)) (.t 60)) none,
    .mk4 8 (some 62) (.mv (.t 61)) none,
    .mk4 9 (some 63) (.mv (.t 12)) (some (62, false)),
    .mk4 10 (some 64) (.eq .ptr false (.t 63) (.c (.ptr none))) (some (62, false)),
    .mk4 11 (some 65) (.mv (.t 15)) (some (62, false)),
    .mk4 12 (some 66) (.bin .neq (.t 65) (.c (.i 0))) (some (62, false)),
    .mk4 13 (some 67) (.eq .bool true (.t 64) (.t 66)) (some (62, false)),
    .mk4 14 (some 68) (.pick (.t 62) (.c (.bool true)) (.t 67)) none,
    .mk4 15 (some 69) (.mv (.t 68)) none,
    .mk4 16 (some 70) (.mv (.t 16)) (some (69, false)),
    .mk4 17 (some 71) (.eq .ptr false (.t 70) (.c (.ptr none))) (some (69, false)),
    .mk4 18 (some 72) (.mv (.t 19)) (some (69, false)),
    .mk4 19 (some 73) (.bin .neq (.t 72) (.c (.i 0))) (some (69, false)),
    .mk4 20 (some 74) (.eq .bool true (.t 71) (.t 73)) (some (69, false)),
    .mk4 21 (some 75) (.pick (.t 69) (.c (.bool true)) (.t 74)) none] [12, 14, 16, 18, 75]) (.cond (.t 75) (.seq (.region 0 [.mk4 0 (some 10) (.mv (.c (.bool false))) none] [10]) (.ret)) (.skip))) (c3_0)
def c3_2 : AC :=
  .seq (.region 0 [.mk4 0 (some 47) (.mv (.t 2)) none,
    .mk4 1 (some 48) (.mv (.t 3)) none,
    .mk4 2 (some 49) (.mv (.t 4)) none,
    .mk4 3 (some 50) (.mv (.t 1)) none,
    .mk4 4 (some 51) (.call 8 [(.t 47), (.t 48), (.t 49), (.t 50)]) none,
    .mk4 5 (some 46) (.mv (.t 51)) none,
    .mk4 6 (some 52) (.extract (.t 46) 0) none,
    .mk4 7 (some 53) (.extract (.t 46) 1) none,
    .mk4 8 (some 18) (.mv (.t 52)) none,
    .mk4 9 (some 19) (.mv (.t 53)) none] [12, 13, 14, 15, 16, 17, 18, 19]) (c3_1)
def c3_3 : AC :=
  .seq (.region 0 [.mk4 0 (some 38) (.mv (.t 11)) none,
    .mk4 1 (some 39) (.mv (.t 2)) none,
    .mk4 2 (some 40) (.mv (.t 3)) none,
    .mk4 3 (some 41) (.mv (.t 4)) none,
    .mk4 4 (some 42) (.mv (.t 1)) none,
    .mk4 5 (some 43) (.call 7 [(.t 38), (.t 39), (.t 40), (.t 41), (.t 42)]) none,
    .mk4 6 (some 37) (.mv (.t 43)) none,
    .mk4 7 (some 44) (.extract (.t 37) 0) none,
    .mk4 8 (some 45) (.extract (.t 37) 1) none,
    .mk4 9 (some 16) (.mv (.t 44)) none,
    .mk4 10 (some 17) (.mv (.t 45)) none] [1, 2, 3, 4, 12, 13, 14, 15, 16, 17]) (c3_2)
def c3_4 : AC :=
  .seq (.region 0 [.mk4 0 (some 32) (.mv (.t 0)) none,
    .mk4 1 (some 33) (.mv (.t 1)) none,
    .mk4 2 (some 34) (.call 6 [(.t 32), (.t 33)]) none,
    .mk4 3 (some 31) (.mv (.t 34)) none,
    .mk4 4 (some 35) (.extract (.t 31) 0) none,
    .mk4 5 (some 36) (.extract (.t 31) 1) none,
    .mk4 6 (some 14) (.mv (.t 35)) none,
    .mk4 7 (some 15) (.mv (.t 36)) none] [1, 2, 3, 4, 11, 12, 13, 14, 15]) (c3_3)
def c3_5 : AC :=
  .seq (.region 0 [.mk4 0 (some 25) (.mv (.t 11)) none,
    .mk4 1 (some 26) (.mv (.t 0)) none,
    .mk4 2 (some 27) (.mv (.t 1)) none,
    .mk4 3 (some 28) (.call 5 [(.t 25), (.t 26), (.t 27)]) none,
    .mk4 4 (some 24) (.mv (.t 28)) none,
    .mk4 5 (some 29) (.extract (.t 24) 0) none,
    .mk4 6 (some 30) (.extract (.t 24) 1) none,
    .mk4 7 (some 12) (.mv (.t 29)) none,
    .mk4 8 (some 13) (.mv (.t 30)) none] [0, 1, 2, 3, 4, 11, 12, 13]) (c3_4)
def c3_6 : AC :=
  .seq (.seq (.region 0 [.mk4 0 (some 20) (.mv (.t 4)) none,
    .mk4 1 (some 21) (.lenL (.t 20)) none,
    .mk4 2 (some 22) (.bin .gtr (.t 21) (.c (.i 50))) none] [0, 1, 2, 3, 4, 22]) (.cond (.t 22) (.seq (.region 0 [.mk4 0 (some 10) (.mv (.c (.bool true))) none] [10]) (.ret)) (.skip))) (.seq (.region 0 [.mk4 0 (some 23) (.call 4 []) none,
    .mk4 1 (some 11) (.mv (.t 23)) none] [0, 1, 2, 3, 4, 11]) (c3_5))
def c3 : AFn := ⟨5, 100, [.tmp 10],
  (.seq (.region 0 [.mk4 0 (some 10) (.mv (.c (.bool false))) none] [0, 1, 2, 3, 4]) (c3_6))⟩
def c4_0 : AC :=
  .seq (.region 0 [.mk4 0 (some 1) (.call 12 []) none,
    .mk4 1 (some 2) (.build ((List.replicate 96 ([.bool false, .i 0, .i 0] : List V)).flatten ++ [.nils, .ptr none, .int .u64 0, .bool false, .i 0, .i 0]) [(289, 1, (.t 1))]) none,
    .mk4 2 (some 3) (.box 294 (.t 2)) none,
    .mk4 3 (some 0) (.mv (.t 3)) none] [0]) (.ret)
def c4 : AFn := ⟨0, 4, [.tmp 0],
  (.seq (.region 0 [.mk4 0 (some 0) (.mv (.c (.ptr none))) none] []) (c4_0))⟩
def c5_0 : AC :=
  .seq (.region 0 [.mk4 0 (some 49) (.mv (.t 8)) none,
    .mk4 1 (some 50) (.mv (.t 1)) none,
    .mk4 2 (some 51) (.build [.nili, .i 0] [(0, 1, (.t 49)), (1, 1, (.t 50))]) none,
    .mk4 3 (some 52) (.box 2 (.t 51)) none,
    .mk4 4 (some 6) (.mv (.t 52)) none,
    .mk4 5 (some 7) (.mv (.c (.i 0))) none] [6, 7]) (.ret)
def c5_1 : AC :=
  .seq (.seq (.seq (.region 0 [.mk4 0 (some 28) (.bin .eql (.t 26) (.c (.i 1))) none,
    .mk4 1 (some 27) (.mv (.t 28)) none] [0, 1, 2, 26, 27]) (.cond (.t 27) (.exit 2) (.skip))) (.seq (.region 0 [.mk4 0 (some 30) (.bin .eql (.t 26) (.c (.i 2))) none,
    .mk4 1 (some 29) (.mv (.t 30)) none] [0, 1, 2, 29]) (.cond (.t 29) (.exit 3) (.skip)))) (.exit 4)
def c5_2 : AC :=
  .seq (.region 0 [.mk4 0 (some 32) (.mv (.t 0)) none,
    .mk4 1 (some 33) (.mv (.t 1)) none,
    .mk4 2 (some 34) (.call 13 [(.t 32), (.t 33)]) none,
    .mk4 3 (some 31) (.mv (.t 34)) none,
    .mk4 4 (some 35) (.extract (.t 31) 0) none,
    .mk4 5 (some 36) (.mkIface 47 (.t 35)) none,
    .mk4 6 (some 37) (.extract (.t 31) 1) none,
    .mk4 7 (some 8) (.mv (.t 36)) none,
    .mk4 8 (some 9) (.mv (.t 37)) none] [1, 8, 9]) (.exit 1)
def c5_3 : AC :=
  .seq (.region 0 [.mk4 0 (some 39) (.mv (.t 0)) none,
    .mk4 1 (some 40) (.mv (.t 1)) none,
    .mk4 2 (some 41) (.mv (.t 2)) none,
    .mk4 3 (some 42) (.call 14 [(.t 39), (.t 40), (.t 41)]) none,
    .mk4 4 (some 38) (.mv (.t 42)) none,
    .mk4 5 (some 43) (.extract (.t 38) 0) none,
    .mk4 6 (some 44) (.mkIface 50 (.t 43)) none,
    .mk4 7 (some 45) (.extract (.t 38) 1) none,
    .mk4 8 (some 8) (.mv (.t 44)) none,
    .mk4 9 (some 9) (.mv (.t 45)) none] [1, 8, 9]) (.exit 1)
def c5_4 : AC :=
  .seq (.seq (.region 0 [.mk4 0 (some 46) (.mv (.t 9)) none,
    .mk4 1 (some 47) (.bin .neq (.t 46) (.c (.i 0))) none] [1, 8, 9, 47]) (.cond (.t 47) (.seq (.region 0 [.mk4 0 (some 48) (.mv (.t 9)) none,
    .mk4 1 (some 6) (.mv (.c (.ptr none))) none,
    .mk4 2 (some 7) (.mv (.t 48)) none] [6, 7]) (.ret)) (.skip))) (c5_0)
def c5_5 : AC :=
  .region 0 [.mk4 0 (some 20) (.mv (.t 2)) none,
    .mk4 1 (some 21) (.bin .lss (.t 20) (.c (.i 1))) none,
    .mk4 2 (some 22) (.mv (.t 21)) none,
    .mk4 3 (some 23) (.mv (.t 2)) (some (22, false)),
    .mk4 4 (some 24) (.bin .gtr (.t 23) (.c (.i 256))) (some (22, false)),
    .mk4 5 (some 25) (.pick (.t 22) (.c (.bool true)) (.t 24)) none,
    .mk4 6 (some 13) (.mv (.t 25)) none] [0, 1, 2, 13]
def c5_6 : AC :=
  .seq (.seq (.region 0 [.mk4 0 (some 14) (.mv (.t 1)) none,
    .mk4 1 (some 15) (.bin .lss (.t 14) (.c (.i 1))) none,
    .mk4 2 (some 16) (.mv (.t 15)) none,
    .mk4 3 (some 17) (.mv (.t 1)) (some (16, false)),
    .mk4 4 (some 18) (.bin .gtr (.t 17) (.c (.i 4))) (some (16, false)),
    .mk4 5 (some 19) (.pick (.t 16) (.c (.bool true)) (.t 18)) none,
    .mk4 6 (some 13) (.mv (.t 19)) none] [0, 1, 2, 13]) (.cond (.t 13) (.skip) (c5_5))) (.cond (.t 13) (.seq (.region 0 [.mk4 0 (some 6) (.mv (.c (.ptr none))) none,
    .mk4 1 (some 7) (.mv (.c (.i 2))) none] [6, 7]) (.ret)) (.skip))
def c5_7 : AC :=
  .seq (.region 0 [.mk4 0 (some 11) (.mv (.t 0)) none,
    .mk4 1 (some 12) (.eq .ptr false (.t 11) (.c (.ptr none))) none,
    .mk4 2 (some 10) (.mv (.t 12)) none] [0, 1, 2, 10]) (.cond (.t 10) (.seq (.region 0 [.mk4 0 (some 6) (.mv (.c (.ptr none))) none,
    .mk4 1 (some 7) (.mv (.c (.i 1))) none] [6, 7]) (.ret)) (c5_6))
def c5_8 : AC :=
  .seq (.region 0 [.mk4 0 (some 8) (.mv (.c (.nili))) none] [0, 1, 2]) (.seq (.region 0 [.mk4 0 (some 9) (.mv (.c (.i 0))) none] [0, 1, 2]) (.seq (.seq (.region 0 [.mk4 0 (some 26) (.mv (.t 1)) none] [0, 1, 2, 26]) (.block 1 (.seq (.block 4 (.seq (.block 3 (.block 2 (c5_1))) (c5_2))) (c5_3)))) (c5_4)))
def c5 : AFn := ⟨3, 53, [.tmp 6, .tmp 7],
  (.seq (.region 0 [.mk4 0 (some 6) (.mv (.c (.ptr none))) none,
    .mk4 1 (some 7) (.mv (.c (.i 0))) none] [0, 1, 2]) (.seq (.block 0 (c5_7)) (c5_8)))⟩
def c6_0 : AC :=
  .seq (.seq (.region 0 [.mk4 0 (some 6) (.mv (.t 0)) none,
    .mk4 1 (some 7) (.bin .lss (.t 6) (.c (.i 1))) none,
    .mk4 2 (some 8) (.mv (.t 7)) none,
    .mk4 3 (some 9) (.mv (.t 0)) (some (8, false)),
    .mk4 4 (some 10) (.bin .gtr (.t 9) (.c (.i 4))) (some (8, false)),
    .mk4 5 (some 11) (.pick (.t 8) (.c (.bool true)) (.t 10)) none,
    .mk4 6 (some 12) (.mv (.t 11)) none,
    .mk4 7 (some 13) (.mv (.t 1)) (some (12, false)),
    .mk4 8 (some 14) (.bin .lss (.t 13) (.c (.i 1))) (some (12, false)),
    .mk4 9 (some 15) (.pick (.t 12) (.c (.bool true)) (.t 14)) none,
    .mk4 10 (some 16) (.mv (.t 15)) none,
    .mk4 11 (some 17) (.mv (.t 1)) (some (16, false)),
    .mk4 12 (some 18) (.bin .gtr (.t 17) (.c (.i 256))) (some (16, false)),
    .mk4 13 (some 19) (.pick (.t 16) (.c (.bool true)) (.t 18)) none] [0, 19]) (.cond (.t 19) (.seq (.region 0 [.mk4 0 (some 4) (.mv (.c (.i 0))) none,
    .mk4 1 (some 5) (.mv (.c (.i 2))) none] [4, 5]) (.ret)) (.skip))) (.seq (.region 0 [.mk4 0 (some 20) (.mv (.t 0)) none,
    .mk4 1 (some 4) (.mv (.t 20)) none,
    .mk4 2 (some 5) (.mv (.c (.i 0))) none] [4, 5]) (.ret))
def c6 : AFn := ⟨2, 21, [.tmp 4, .tmp 5],
  (.seq (.region 0 [.mk4 0 (some 4) (.mv (.c (.i 0))) none,
    .mk4 1 (some 5) (.mv (.c (.i 0))) none] [0, 1]) (c6_0))⟩
def c7_0 : AC :=
  .seq (.region 0 [.mk4 0 (some 24) (.mv (.t 0)) none,
    .mk4 1 (some 25) (.mv (.t 12)) none,
    .mk4 2 (some 26) (.mv (.t 4)) none,
    .mk4 3 (some 27) (.call 5 [(.t 24), (.t 25), (.t 26)]) none,
    .mk4 4 (some 28) (.extract (.t 27) 0) none,
    .mk4 5 (some 29) (.extract (.t 27) 1) none,
    .mk4 6 (some 10) (.mv (.t 28)) none,
    .mk4 7 (some 11) (.mv (.t 29)) none] [10, 11]) (.ret)
def c7_1 : AC :=
  .seq (.seq (.region 0 [.mk4 0 (some 21) (.mv (.t 13)) none,
    .mk4 1 (some 22) (.bin .neq (.t 21) (.c (.i 0))) none] [0, 4, 12, 13, 22]) (.cond (.t 22) (.seq (.region 0 [.mk4 0 (some 23) (.mv (.t 13)) none,
    .mk4 1 (some 10) (.mv (.c (.ptr none))) none,
    .mk4 2 (some 11) (.mv (.t 23)) none] [10, 11]) (.ret)) (.skip))) (c7_0)
def c7_2 : AC :=
  .seq (.region 0 [.mk4 0 (some 15) (.mv (.t 1)) none,
    .mk4 1 (some 16) (.mv (.t 2)) none,
    .mk4 2 (some 17) (.mv (.t 3)) none,
    .mk4 3 (some 18) (.call 15 [(.t 15), (.t 16), (.t 17)]) none,
    .mk4 4 (some 14) (.mv (.t 18)) none,
    .mk4 5 (some 19) (.extract (.t 14) 0) none,
    .mk4 6 (some 20) (.extract (.t 14) 1) none,
    .mk4 7 (some 12) (.mv (.t 19)) none,
    .mk4 8 (some 13) (.mv (.t 20)) none] [0, 4, 12, 13]) (c7_1)
def c7 : AFn := ⟨5, 30, [.tmp 10, .tmp 11],
  (.seq (.region 0 [.mk4 0 (some 10) (.mv (.c (.ptr none))) none,
    .mk4 1 (some 11) (.mv (.c (.i 0))) none] [0, 1, 2, 3, 4]) (c7_2))⟩
def c8_0 : AC :=
  .seq (.region 0 [.mk4 0 (some 22) (.mv (.t 10)) none,
    .mk4 1 (some 23) (.mv (.t 3)) none,
    .mk4 2 (some 24) (.call 6 [(.t 22), (.t 23)]) none,
    .mk4 3 (some 25) (.extract (.t 24) 0) none,
    .mk4 4 (some 26) (.extract (.t 24) 1) none,
    .mk4 5 (some 8) (.mv (.t 25)) none,
    .mk4 6 (some 9) (.mv (.t 26)) none] [8, 9]) (.ret)
def c8_1 : AC :=
  .seq (.seq (.region 0 [.mk4 0 (some 19) (.mv (.t 11)) none,
    .mk4 1 (some 20) (.bin .neq (.t 19) (.c (.i 0))) none] [3, 10, 11, 20]) (.cond (.t 20) (.seq (.region 0 [.mk4 0 (some 21) (.mv (.t 11)) none,
    .mk4 1 (some 8) (.mv (.c (.i 0))) none,
    .mk4 2 (some 9) (.mv (.t 21)) none] [8, 9]) (.ret)) (.skip))) (c8_0)
def c8_2 : AC :=
  .seq (.region 0 [.mk4 0 (some 13) (.mv (.t 0)) none,
    .mk4 1 (some 14) (.mv (.t 1)) none,
    .mk4 2 (some 15) (.mv (.t 2)) none,
    .mk4 3 (some 16) (.call 16 [(.t 13), (.t 14), (.t 15)]) none,
    .mk4 4 (some 12) (.mv (.t 16)) none,
    .mk4 5 (some 17) (.extract (.t 12) 0) none,
    .mk4 6 (some 18) (.extract (.t 12) 1) none,
    .mk4 7 (some 10) (.mv (.t 17)) none,
    .mk4 8 (some 11) (.mv (.t 18)) none] [3, 10, 11]) (c8_1)
def c8 : AFn := ⟨4, 27, [.tmp 8, .tmp 9],
  (.seq (.region 0 [.mk4 0 (some 8) (.mv (.c (.i 0))) none,
    .mk4 1 (some 9) (.mv (.c (.i 0))) none] [0, 1, 2, 3]) (c8_2))⟩
def c9_0 : AC :=
  .seq (.seq (.region 0 [.mk4 0 (some 3) (.mv (.t 0)) none,
    .mk4 1 (some 4) (.call 17 [(.t 3)]) none] [0, 4]) (.cond (.t 4) (.seq (.region 0 [.mk4 0 (some 2) (.mv (.c (.i 0))) none] [2]) (.ret)) (.skip))) (.seq (.region 0 [.mk4 0 (some 5) (.mv (.t 0)) none,
    .mk4 1 (some 6) (.nilck (.t 5)) none,
    .mk4 2 (some 7) (.faddr 1 (.t 6)) none,
    .mk4 3 (some 8) (.load1 (.t 7)) none,
    .mk4 4 (some 2) (.mv (.t 8)) none] [2]) (.ret))
def c9 : AFn := ⟨1, 9, [.tmp 2],
  (.seq (.region 0 [.mk4 0 (some 2) (.mv (.c (.i 0))) none] [0]) (c9_0))⟩
def c10 : AFn := ⟨1, 6, [.tmp 2],
  (.seq (.region 0 [.mk4 0 (some 2) (.mv (.c (.i 0))) none] [0]) (.seq (.region 0 [.mk4 0 (some 3) (.mv (.t 0)) none,
    .mk4 1 (some 4) (.call 9 [(.t 3)]) none,
    .mk4 2 (some 5) (.call 18 [(.t 4)]) none,
    .mk4 3 (some 2) (.mv (.t 5)) none] [2]) (.ret)))⟩
def c11_0 : AC :=
  .seq (.region 0 [.mk4 0 (some 7) (.bin .eql (.t 3) (.c (.i 3))) none,
    .mk4 1 (some 6) (.mv (.t 7)) none] [3, 6]) (.cond (.t 6) (.seq (.region 0 [.mk4 0 (some 2) (.mv (.c (.i 11))) none] [2]) (.ret)) (.seq (.region 0 [.mk4 0 (some 9) (.bin .eql (.t 3) (.c (.i 4))) none,
    .mk4 1 (some 8) (.mv (.t 9)) none] [8]) (.cond (.t 8) (.seq (.region 0 [.mk4 0 (some 2) (.mv (.c (.i 15))) none] [2]) (.ret)) (.skip))))
def c11_1 : AC :=
  .seq (.seq (.region 0 [.mk4 0 (some 3) (.mv (.t 0)) none] [3]) (.block 0 (.seq (.region 0 [.mk4 0 (some 5) (.bin .eql (.t 3) (.c (.i 2))) none,
    .mk4 1 (some 4) (.mv (.t 5)) none] [3, 4]) (.cond (.t 4) (.seq (.region 0 [.mk4 0 (some 2) (.mv (.c (.i 2))) none] [2]) (.ret)) (c11_0))))) (.seq (.region 0 [.mk4 0 (some 2) (.mv (.c (.i 0))) none] [2]) (.ret))
def c11 : AFn := ⟨1, 10, [.tmp 2],
  (.seq (.region 0 [.mk4 0 (some 2) (.mv (.c (.i 0))) none] [0]) (c11_1))⟩
def c12 : AFn := ⟨0, 3, [.tmp 0],
  (.seq (.region 0 [.mk4 0 (some 0) (.mv (.c (.ptr none))) none] []) (.seq (.region 0 [.mk4 0 (some 1) (.build (List.replicate 32 (.bool false : V) ++ List.replicate 32 (.i 0 : V)) []) none,
    .mk4 1 (some 2) (.box 64 (.t 1)) none,
    .mk4 2 (some 0) (.mv (.t 2)) none] [0]) (.ret)))⟩
def c13_0 : AC :=
  .seq (.region 0 [.mk4 0 (some 10) (.mv (.t 1)) none,
    .mk4 1 (some 11) (.bin .neq (.t 10) (.c (.i 1))) none,
    .mk4 2 (some 12) (.mv (.t 11)) none,
    .mk4 3 (some 13) (.mv (.t 1)) (some (12, true)),
    .mk4 4 (some 14) (.bin .neq (.t 13) (.c (.i 2))) (some (12, true)),
    .mk4 5 (some 15) (.pick (.t 12) (.t 14) (.c (.bool false))) none,
    .mk4 6 (some 9) (.mv (.t 15)) none] [0, 1, 9]) (.cond (.t 9) (.seq (.region 0 [.mk4 0 (some 4) (.mv (.c (.ptr none))) none,
    .mk4 1 (some 5) (.mv (.c (.i 2))) none] [4, 5]) (.ret)) (.skip))
def c13_1 : AC :=
  .seq (.region 0 [.mk4 0 (some 7) (.mv (.t 0)) none,
    .mk4 1 (some 8) (.eq .ptr false (.t 7) (.c (.ptr none))) none,
    .mk4 2 (some 6) (.mv (.t 8)) none] [0, 1, 6]) (.cond (.t 6) (.seq (.region 0 [.mk4 0 (some 4) (.mv (.c (.ptr none))) none,
    .mk4 1 (some 5) (.mv (.c (.i 1))) none] [4, 5]) (.ret)) (c13_0))
def c13_2 : AC :=
  .seq (.region 0 [.mk4 0 (some 16) (.mv (.t 0)) none,
    .mk4 1 (some 17) (.mv (.t 1)) none,
    .mk4 2 (some 18) (.build ([.ptr none] ++ List.replicate 98 (.i 0 : V)) [(0, 1, (.t 16)), (1, 1, (.t 17))]) none,
    .mk4 3 (some 19) (.box 99 (.t 18)) none,
    .mk4 4 (some 4) (.mv (.t 19)) none,
    .mk4 5 (some 5) (.mv (.c (.i 0))) none] [4, 5]) (.ret)
def c13 : AFn := ⟨2, 20, [.tmp 4, .tmp 5],
  (.seq (.region 0 [.mk4 0 (some 4) (.mv (.c (.ptr none))) none,
    .mk4 1 (some 5) (.mv (.c (.i 0))) none] [0, 1]) (.seq (.block 0 (c13_1)) (c13_2)))⟩
def c14_0 : AC :=
  .seq (.region 0 [.mk4 0 (some 62) (.mv (.t 8)) none,
    .mk4 1 (some 63) (.mv (.t 11)) none,
    .mk4 2 (some 64) (.build [.ptr none] [(0, 1, (.t 63))]) none,
    .mk4 3 (some 65) (.box 1 (.t 64)) none,
    .mk4 4 (some 66) (.mkIface 81 (.t 65)) none,
    .mk4 5 (some 67) (.nilck (.t 62)) none,
    .mk4 6 (some 68) (.faddr 1 (.t 67)) none,
    .mk4 7 none (.store 1 (.t 68) (.t 66)) none] [8]) (.seq (.region 0 [.mk4 0 (some 69) (.mv (.t 8)) none,
    .mk4 1 (some 6) (.mv (.t 69)) none,
    .mk4 2 (some 7) (.mv (.c (.i 0))) none] [6, 7]) (.ret))
def c14_1 : AC :=
  .seq (.seq (.region 0 [.mk4 0 (some 59) (.mv (.t 12)) none,
    .mk4 1 (some 60) (.bin .neq (.t 59) (.c (.i 0))) none] [8, 11, 12, 60]) (.cond (.t 60) (.seq (.region 0 [.mk4 0 (some 61) (.mv (.t 12)) none,
    .mk4 1 (some 6) (.mv (.c (.ptr none))) none,
    .mk4 2 (some 7) (.mv (.t 61)) none] [6, 7]) (.ret)) (.skip))) (c14_0)
def c14_2 : AC :=
  .seq (.region 0 [.mk4 0 (some 42) (.mv (.t 8)) none,
    .mk4 1 (some 43) (.mv (.t 9)) none,
    .mk4 2 (some 44) (.mv (.t 8)) none,
    .mk4 3 (some 45) (.nilck (.t 44)) none,
    .mk4 4 (some 46) (.faddr 2 (.t 45)) none,
    .mk4 5 (some 47) (.load1 (.t 46)) none,
    .mk4 6 (some 48) (.build [.ptr none, .i 0, .ptr none] [(0, 1, (.t 43)), (1, 1, (.c (.i (-1)))), (2, 1, (.t 47))]) none,
    .mk4 7 (some 49) (.box 3 (.t 48)) none,
    .mk4 8 (some 50) (.mkIface 75 (.t 49)) none,
    .mk4 9 (some 51) (.nilck (.t 42)) none,
    .mk4 10 (some 52) (.faddr 1 (.t 51)) none,
    .mk4 11 none (.store 1 (.t 52) (.t 50)) none] [8]) (.seq (.region 0 [.mk4 0 (some 53) (.mv (.t 8)) none,
    .mk4 1 (some 6) (.mv (.t 53)) none,
    .mk4 2 (some 7) (.mv (.c (.i 0))) none] [6, 7]) (.ret))
def c14_3 : AC :=
  .seq (.seq (.region 0 [.mk4 0 (some 39) (.mv (.t 10)) none,
    .mk4 1 (some 40) (.bin .neq (.t 39) (.c (.i 0))) none] [8, 9, 10, 40]) (.cond (.t 40) (.seq (.region 0 [.mk4 0 (some 41) (.mv (.t 10)) none,
    .mk4 1 (some 6) (.mv (.c (.ptr none))) none,
    .mk4 2 (some 7) (.mv (.t 41)) none] [6, 7]) (.ret)) (.skip))) (c14_2)
def c14_4 : AC :=
  .seq (.region 0 [.mk4 0 (some 35) (.mv (.t 0)) none,
    .mk4 1 (some 36) (.call 20 [(.t 35), (.c (.i 96))]) none,
    .mk4 2 (some 34) (.mv (.t 36)) none,
    .mk4 3 (some 37) (.extract (.t 34) 0) none,
    .mk4 4 (some 38) (.extract (.t 34) 1) none,
    .mk4 5 (some 9) (.mv (.t 37)) none,
    .mk4 6 (some 10) (.mv (.t 38)) none] [8, 9, 10]) (c14_3)
def c14_5 : AC :=
  .seq (.region 0 [.mk4 0 (some 55) (.mv (.t 0)) none,
    .mk4 1 (some 56) (.call 21 [(.t 55)]) none,
    .mk4 2 (some 54) (.mv (.t 56)) none,
    .mk4 3 (some 57) (.extract (.t 54) 0) none,
    .mk4 4 (some 58) (.extract (.t 54) 1) none,
    .mk4 5 (some 11) (.mv (.t 57)) none,
    .mk4 6 (some 12) (.mv (.t 58)) none] [8, 11, 12]) (c14_1)
def c14_6 : AC :=
  .seq (.region 0 [.mk4 0 (some 23) (.mv (.t 2)) none,
    .mk4 1 (some 24) (.bin .lss (.t 23) (.c (.i 1))) none,
    .mk4 2 (some 16) (.mv (.t 24)) none] [0, 1, 2, 16]) (.cond (.t 16) (.skip) (.region 0 [.mk4 0 (some 25) (.mv (.t 2)) none,
    .mk4 1 (some 26) (.bin .gtr (.t 25) (.c (.i 256))) none,
    .mk4 2 (some 16) (.mv (.t 26)) none] [0, 1, 2, 16]))
def c14_7 : AC :=
  .seq (.seq (.region 0 [.mk4 0 (some 17) (.mv (.t 1)) none,
    .mk4 1 (some 18) (.bin .neq (.t 17) (.c (.i 3))) none,
    .mk4 2 (some 19) (.mv (.t 18)) none,
    .mk4 3 (some 20) (.mv (.t 1)) (some (19, true)),
    .mk4 4 (some 21) (.bin .neq (.t 20) (.c (.i 4))) (some (19, true)),
    .mk4 5 (some 22) (.pick (.t 19) (.t 21) (.c (.bool false))) none,
    .mk4 6 (some 16) (.mv (.t 22)) none] [0, 1, 2, 16]) (.cond (.t 16) (.skip) (c14_6))) (.cond (.t 16) (.seq (.region 0 [.mk4 0 (some 6) (.mv (.c (.ptr none))) none,
    .mk4 1 (some 7) (.mv (.c (.i 2))) none] [6, 7]) (.ret)) (.skip))
def c14_8 : AC :=
  .seq (.region 0 [.mk4 0 (some 14) (.mv (.t 0)) none,
    .mk4 1 (some 15) (.eq .ptr false (.t 14) (.c (.ptr none))) none,
    .mk4 2 (some 13) (.mv (.t 15)) none] [0, 1, 2, 13]) (.cond (.t 13) (.seq (.region 0 [.mk4 0 (some 6) (.mv (.c (.ptr none))) none,
    .mk4 1 (some 7) (.mv (.c (.i 1))) none] [6, 7]) (.ret)) (c14_7))
def c14_9 : AC :=
  .seq (.region 0 [.mk4 0 (some 27) (.mv (.t 0)) none,
    .mk4 1 (some 28) (.call 19 []) none,
    .mk4 2 (some 29) (.mv (.t 2)) none,
    .mk4 3 (some 30) (.build [.ptr none, .nili, .ptr none, .i 0, .i 0, .i 0] [(0, 1, (.t 27)), (2, 1, (.t 28)), (3, 1, (.t 29)), (4, 1, (.c (.i (-1)))), (5, 1, (.c (.i (-1))))]) none,
    .mk4 4 (some 31) (.box 6 (.t 30)) none,
    .mk4 5 (some 8) (.mv (.t 31)) none] [0, 1, 8]) (.seq (.seq (.region 0 [.mk4 0 (some 32) (.mv (.t 1)) none,
    .mk4 1 (some 33) (.bin .eql (.t 32) (.c (.i 3))) none] [0, 8, 33]) (.cond (.t 33) (c14_4) (.skip))) (c14_5))
def c14 : AFn := ⟨3, 70, [.tmp 6, .tmp 7],
  (.seq (.region 0 [.mk4 0 (some 6) (.mv (.c (.ptr none))) none,
    .mk4 1 (some 7) (.mv (.c (.i 0))) none] [0, 1, 2]) (.seq (.block 0 (c14_8)) (c14_9)))⟩
def c15_0 : AC :=
  .seq (.region 0 [.mk4 0 (some 30) (.mv (.t 10)) none,
    .mk4 1 (some 31) (.mv (.t 0)) none,
    .mk4 2 (some 32) (.bin .and (.t 30) (.t 31)) none,
    .mk4 3 (some 33) (.mv (.t 0)) none,
    .mk4 4 (some 34) (.bin .eql (.t 32) (.t 33)) none,
    .mk4 5 (some 35) (.mv (.t 34)) none,
    .mk4 6 (some 36) (.mv (.t 10)) (some (35, true)),
    .mk4 7 (some 37) (.mv (.t 1)) (some (35, true)),
    .mk4 8 (some 38) (.bin .and (.t 36) (.t 37)) (some (35, true)),
    .mk4 9 (some 39) (.bin .eql (.t 38) (.c (.i 0))) (some (35, true)),
    .mk4 10 (some 40) (.pick (.t 35) (.t 39) (.c (.bool false))) none,
    .mk4 11 (some 41) (.mv (.t 40)) none,
    .mk4 12 (some 42) (.mv (.t 2)) (some (41, true)),
    .mk4 13 (some 43) (.mv (.t 9)) (some (41, true)),
    .mk4 14 (some 44) (.call 23 [(.t 42), (.t 43)]) (some (41, true)),
    .mk4 15 (some 45) (.un .not (.t 44)) (some (41, true)),
    .mk4 16 (some 46) (.pick (.t 41) (.t 45) (.c (.bool false))) none] [0, 1, 2, 9, 46]) (.cond (.t 46) (.seq (.region 0 [.mk4 0 (some 47) (.mv (.t 9)) none,
    .mk4 1 (some 6) (.mv (.t 47)) none,
    .mk4 2 (some 7) (.mv (.c (.i 0))) none] [6, 7]) (.ret)) (.skip))
def c15_1 : AC :=
  .seq (.block 1 (.seq (.region 0 [.mk4 0 (some 28) (.mv (.t 9)) none,
    .mk4 1 (some 29) (.call 18 [(.t 28)]) none,
    .mk4 2 (some 10) (.mv (.t 29)) none] [0, 1, 2, 9, 10]) (c15_0))) (.region 0 [.mk4 0 (some 26) (.mv (.t 9)) none,
    .mk4 1 (some 27) (.bin .sub (.t 26) (.c (.i 1))) none,
    .mk4 2 (some 9) (.mv (.t 27)) none] [0, 1, 2, 9])
def c15_2 : AC :=
  .seq (.region 0 [.mk4 0 (some 14) (.mv (.t 0)) none,
    .mk4 1 (some 15) (.mv (.t 8)) none,
    .mk4 2 (some 16) (.bin .andNot (.t 14) (.t 15)) none,
    .mk4 3 (some 17) (.bin .neq (.t 16) (.c (.i 0))) none,
    .mk4 4 (some 18) (.mv (.t 17)) none,
    .mk4 5 (some 19) (.mv (.t 1)) (some (18, false)),
    .mk4 6 (some 20) (.mv (.t 8)) (some (18, false)),
    .mk4 7 (some 21) (.bin .andNot (.t 19) (.t 20)) (some (18, false)),
    .mk4 8 (some 22) (.bin .neq (.t 21) (.c (.i 0))) (some (18, false)),
    .mk4 9 (some 23) (.pick (.t 18) (.c (.bool true)) (.t 22)) none] [0, 1, 2, 23]) (.cond (.t 23) (.seq (.region 0 [.mk4 0 (some 6) (.mv (.c (.i 0))) none,
    .mk4 1 (some 7) (.mv (.c (.i 50))) none] [6, 7]) (.ret)) (.skip))
def c15_3 : AC :=
  .seq (.seq (.region 0 [.mk4 0 (some 9) (.mv (.c (.i 4))) none] [0, 1, 2, 9]) (.block 0 (.loop [0, 1, 2, 9] (.seq (.seq (.region 0 [.mk4 0 (some 24) (.mv (.t 9)) none,
    .mk4 1 (some 25) (.bin .geq (.t 24) (.c (.i 1))) none] [0, 1, 2, 9, 25]) (.cond (.t 25) (.skip) (.exit 0))) (c15_1))))) (.seq (.region 0 [.mk4 0 (some 6) (.mv (.c (.i 0))) none,
    .mk4 1 (some 7) (.mv (.c (.i 51))) none] [6, 7]) (.ret))
def c15_4 : AC :=
  .seq (.region 0 [.mk4 0 (some 6) (.mv (.c (.i 0))) none,
    .mk4 1 (some 7) (.mv (.c (.i 0))) none] [0, 1, 2]) (.seq (.seq (.region 0 [.mk4 0 (some 11) (.call 22 [(.c (.i 1))]) none,
    .mk4 1 (some 12) (.bin .shl (.c (.i 1)) (.t 11)) none,
    .mk4 2 (some 13) (.bin .sub (.t 12) (.c (.i 1))) none,
    .mk4 3 (some 8) (.mv (.t 13)) none] [0, 1, 2, 8]) (c15_2)) (c15_3))
def c15 : AFn := ⟨3, 48, [.tmp 6, .tmp 7],
  (c15_4)⟩
def c16_0 : AC :=
  .region 0 [.mk4 0 (some 66) (.mv (.t 9)) none,
    .mk4 1 (some 67) (.mv (.t 66)) none,
    .mk4 2 (some 68) (.mv (.t 2)) (some (67, true)),
    .mk4 3 (some 69) (.mv (.t 11)) (some (67, true)),
    .mk4 4 (some 70) (.ixaS 1 (.t 68) (.t 69)) (some (67, true)),
    .mk4 5 (some 71) (.load1 (.t 70)) (some (67, true)),
    .mk4 6 (some 72) (.mv (.t 8)) (some (67, true)),
    .mk4 7 (some 73) (.bin .neq (.t 71) (.t 72)) (some (67, true)),
    .mk4 8 (some 74) (.pick (.t 67) (.t 73) (.c (.bool false))) none,
    .mk4 9 (some 9) (.mv (.t 74)) none] [0, 1, 2, 8, 9, 11]
def c16_1 : AC :=
  .seq (.seq (.region 0 [.mk4 0 (some 60) (.mv (.t 11)) none,
    .mk4 1 (some 61) (.mv (.t 2)) none,
    .mk4 2 (some 62) (.lenL (.t 61)) none,
    .mk4 3 (some 63) (.bin .lss (.t 60) (.t 62)) none] [0, 1, 2, 8, 9, 11, 63]) (.cond (.t 63) (.skip) (.exit 4))) (.seq (.block 5 (c16_0)) (.region 0 [.mk4 0 (some 64) (.mv (.t 11)) none,
    .mk4 1 (some 65) (.bin .add (.t 64) (.c (.i 1))) none,
    .mk4 2 (some 11) (.mv (.t 65)) none] [0, 1, 2, 8, 9, 11]))
def c16_2 : AC :=
  .region 0 [.mk4 0 (some 34) (.mv (.t 9)) none,
    .mk4 1 (some 35) (.mv (.t 34)) none,
    .mk4 2 (some 36) (.mv (.t 0)) (some (35, true)),
    .mk4 3 (some 37) (.mv (.t 10)) (some (35, true)),
    .mk4 4 (some 38) (.call 24 [(.t 36), (.t 37)]) (some (35, true)),
    .mk4 5 (some 39) (.un .not (.t 38)) (some (35, true)),
    .mk4 6 (some 40) (.mv (.t 39)) (some (35, true)),
    .mk4 7 (some 41) (.mv (.t 8)) (some (40, false)),
    .mk4 8 (some 42) (.call 11 [(.t 41)]) (some (40, false)),
    .mk4 9 (some 43) (.mv (.t 10)) (some (40, false)),
    .mk4 10 (some 44) (.call 24 [(.t 42), (.t 43)]) (some (40, false)),
    .mk4 11 (some 45) (.pick (.t 40) (.c (.bool true)) (.t 44)) (some (35, true)),
    .mk4 12 (some 46) (.pick (.t 35) (.t 45) (.c (.bool false))) none,
    .mk4 13 (some 47) (.mv (.t 46)) none,
    .mk4 14 (some 48) (.mv (.t 1)) (some (47, true)),
    .mk4 15 (some 49) (.mv (.t 10)) (some (47, true)),
    .mk4 16 (some 50) (.call 24 [(.t 48), (.t 49)]) (some (47, true)),
    .mk4 17 (some 51) (.un .not (.t 50)) (some (47, true)),
    .mk4 18 (some 52) (.mv (.t 51)) (some (47, true)),
    .mk4 19 (some 53) (.mv (.t 8)) (some (52, false)),
    .mk4 20 (some 54) (.call 11 [(.t 53)]) (some (52, false)),
    .mk4 21 (some 55) (.mv (.t 10)) (some (52, false)),
    .mk4 22 (some 56) (.call 24 [(.t 54), (.t 55)]) (some (52, false)),
    .mk4 23 (some 57) (.un .not (.t 56)) (some (52, false)),
    .mk4 24 (some 58) (.pick (.t 52) (.c (.bool true)) (.t 57)) (some (47, true)),
    .mk4 25 (some 59) (.pick (.t 47) (.t 58) (.c (.bool false))) none,
    .mk4 26 (some 9) (.mv (.t 59)) none] [0, 1, 2, 8, 9, 10]
def c16_3 : AC :=
  .seq (.seq (.region 0 [.mk4 0 (some 30) (.mv (.t 10)) none,
    .mk4 1 (some 31) (.bin .leq (.t 30) (.c (.i 8))) none] [0, 1, 2, 8, 9, 10, 31]) (.cond (.t 31) (.skip) (.exit 2))) (.seq (.block 3 (c16_2)) (.region 0 [.mk4 0 (some 32) (.mv (.t 10)) none,
    .mk4 1 (some 33) (.bin .mul (.t 32) (.c (.i 2))) none,
    .mk4 2 (some 10) (.mv (.t 33)) none] [0, 1, 2, 8, 9, 10]))
def c16_4 : AC :=
  .seq (.seq (.region 0 [.mk4 0 (some 11) (.mv (.c (.i 0))) none] [0, 1, 2, 8, 9, 11]) (.block 4 (.loop [0, 1, 2, 8, 9, 11] (c16_1)))) (.seq (.region 0 [.mk4 0 (some 75) (.mv (.t 9)) none] [0, 1, 2, 8, 75]) (.cond (.t 75) (.seq (.region 0 [.mk4 0 (some 76) (.mv (.t 8)) none,
    .mk4 1 (some 6) (.mv (.t 76)) none,
    .mk4 2 (some 7) (.mv (.c (.i 0))) none] [6, 7]) (.ret)) (.skip)))
def c16_5 : AC :=
  .seq (.block 1 (.seq (.region 0 [.mk4 0 (some 9) (.mv (.c (.bool true))) none] [0, 1, 2, 8, 9]) (.seq (.seq (.region 0 [.mk4 0 (some 10) (.mv (.c (.i 1))) none] [0, 1, 2, 8, 9, 10]) (.block 2 (.loop [0, 1, 2, 8, 9, 10] (c16_3)))) (c16_4)))) (.region 0 [.mk4 0 (some 28) (.mv (.t 8)) none,
    .mk4 1 (some 29) (.bin .sub (.t 28) (.c (.i 1))) none,
    .mk4 2 (some 8) (.mv (.t 29)) none] [0, 1, 2, 8])
def c16_6 : AC :=
  .seq (.seq (.region 0 [.mk4 0 (some 8) (.mv (.c (.i 4))) none] [0, 1, 2, 8]) (.block 0 (.loop [0, 1, 2, 8] (.seq (.seq (.region 0 [.mk4 0 (some 26) (.mv (.t 8)) none,
    .mk4 1 (some 27) (.bin .geq (.t 26) (.c (.i 1))) none] [0, 1, 2, 8, 27]) (.cond (.t 27) (.skip) (.exit 0))) (c16_5))))) (.seq (.region 0 [.mk4 0 (some 6) (.mv (.c (.i 0))) none,
    .mk4 1 (some 7) (.mv (.c (.i 51))) none] [6, 7]) (.ret))
def c16_7 : AC :=
  .seq (.seq (.region 0 [.mk4 0 (some 12) (.mv (.t 0)) none,
    .mk4 1 (some 13) (.bin .lss (.t 12) (.c (.i 0))) none,
    .mk4 2 (some 14) (.mv (.t 13)) none,
    .mk4 3 (some 15) (.mv (.t 0)) (some (14, false)),
    .mk4 4 (some 16) (.bin .gtr (.t 15) (.c (.i 15))) (some (14, false)),
    .mk4 5 (some 17) (.pick (.t 14) (.c (.bool true)) (.t 16)) none,
    .mk4 6 (some 18) (.mv (.t 17)) none,
    .mk4 7 (some 19) (.mv (.t 1)) (some (18, false)),
    .mk4 8 (some 20) (.bin .lss (.t 19) (.c (.i 0))) (some (18, false)),
    .mk4 9 (some 21) (.pick (.t 18) (.c (.bool true)) (.t 20)) none,
    .mk4 10 (some 22) (.mv (.t 21)) none,
    .mk4 11 (some 23) (.mv (.t 1)) (some (22, false)),
    .mk4 12 (some 24) (.bin .gtr (.t 23) (.c (.i 15))) (some (22, false)),
    .mk4 13 (some 25) (.pick (.t 22) (.c (.bool true)) (.t 24)) none] [0, 1, 2, 25]) (.cond (.t 25) (.seq (.region 0 [.mk4 0 (some 6) (.mv (.c (.i 0))) none,
    .mk4 1 (some 7) (.mv (.c (.i 50))) none] [6, 7]) (.ret)) (.skip))) (c16_6)
def c16 : AFn := ⟨3, 77, [.tmp 6, .tmp 7],
  (.seq (.region 0 [.mk4 0 (some 6) (.mv (.c (.i 0))) none,
    .mk4 1 (some 7) (.mv (.c (.i 0))) none] [0, 1, 2]) (c16_7))⟩
def c17_0 : AC :=
  .seq (.region 0 [.mk4 0 (some 3) (.mv (.t 0)) none,
    .mk4 1 (some 4) (.eq .ptr false (.t 3) (.c (.ptr none))) none,
    .mk4 2 (some 5) (.mv (.t 4)) none,
    .mk4 3 (some 6) (.mv (.t 0)) (some (5, false)),
    .mk4 4 (some 7) (.nilck (.t 6)) (some (5, false)),
    .mk4 5 (some 8) (.faddr 1 (.t 7)) (some (5, false)),
    .mk4 6 (some 9) (.load1 (.t 8)) (some (5, false)),
    .mk4 7 (some 10) (.bin .eql (.t 9) (.c (.i 0))) (some (5, false)),
    .mk4 8 (some 11) (.pick (.t 5) (.c (.bool true)) (.t 10)) none,
    .mk4 9 (some 2) (.mv (.t 11)) none] [2]) (.ret)
def c17 : AFn := ⟨1, 12, [.tmp 2],
  (.seq (.region 0 [.mk4 0 (some 2) (.mv (.c (.bool false))) none] [0]) (c17_0))⟩
def c18_0 : AC :=
  .seq (.seq (.region 0 [.mk4 0 (some 3) (.mv (.t 0)) none,
    .mk4 1 (some 4) (.call 25 [(.t 3)]) none,
    .mk4 2 (some 5) (.un .not (.t 4)) none] [0, 5]) (.cond (.t 5) (.seq (.region 0 [.mk4 0 (some 2) (.mv (.c (.i 0))) none] [2]) (.ret)) (.skip))) (.seq (.region 0 [.mk4 0 (some 6) (.mv (.t 0)) none,
    .mk4 1 (some 7) (.bin .sub (.t 6) (.c (.i 1))) none,
    .mk4 2 (some 8) (.ixaA 4 1 (.c (.p 0 0)) (.t 7)) none,
    .mk4 3 (some 9) (.load1 (.t 8)) none,
    .mk4 4 (some 2) (.mv (.t 9)) none] [2]) (.ret))
def c18 : AFn := ⟨1, 10, [.tmp 2],
  (.seq (.region 0 [.mk4 0 (some 2) (.mv (.c (.i 0))) none] [0]) (c18_0))⟩
def c19 : AFn := ⟨0, 3, [.tmp 0],
  (.seq (.region 0 [.mk4 0 (some 0) (.mv (.c (.ptr none))) none] []) (.seq (.region 0 [.mk4 0 (some 1) (.build (List.replicate 192 (.i 0 : V) ++ [.bool false]) [(192, 1, (.c (.bool true)))]) none,
    .mk4 1 (some 2) (.box 193 (.t 1)) none,
    .mk4 2 (some 0) (.mv (.t 2)) none] [0]) (.ret)))⟩
def c20_0 : AC :=
  .seq (.region 0 [.mk4 0 (some 10) (.mv (.t 1)) none,
    .mk4 1 (some 11) (.bin .lss (.t 10) (.c (.i 0))) none,
    .mk4 2 (some 9) (.mv (.t 11)) none] [0, 1, 9]) (.cond (.t 9) (.seq (.region 0 [.mk4 0 (some 4) (.mv (.c (.ptr none))) none,
    .mk4 1 (some 5) (.mv (.c (.i 2))) none] [4, 5]) (.ret)) (.skip))
def c20_1 : AC :=
  .seq (.region 0 [.mk4 0 (some 7) (.mv (.t 0)) none,
    .mk4 1 (some 8) (.eq .ptr false (.t 7) (.c (.ptr none))) none,
    .mk4 2 (some 6) (.mv (.t 8)) none] [0, 1, 6]) (.cond (.t 6) (.seq (.region 0 [.mk4 0 (some 4) (.mv (.c (.ptr none))) none,
    .mk4 1 (some 5) (.mv (.c (.i 1))) none] [4, 5]) (.ret)) (c20_0))
def c20_2 : AC :=
  .seq (.region 0 [.mk4 0 (some 12) (.mv (.t 0)) none,
    .mk4 1 (some 13) (.mv (.t 1)) none,
    .mk4 2 (some 14) (.mkMap) none,
    .mk4 3 (some 15) (.build [.ptr none, .i 0, .map none] [(0, 1, (.t 12)), (1, 1, (.t 13)), (2, 1, (.t 14))]) none,
    .mk4 4 (some 16) (.box 3 (.t 15)) none,
    .mk4 5 (some 4) (.mv (.t 16)) none,
    .mk4 6 (some 5) (.mv (.c (.i 0))) none] [4, 5]) (.ret)
def c20 : AFn := ⟨2, 17, [.tmp 4, .tmp 5],
  (.seq (.region 0 [.mk4 0 (some 4) (.mv (.c (.ptr none))) none,
    .mk4 1 (some 5) (.mv (.c (.i 0))) none] [0, 1]) (.seq (.block 0 (c20_1)) (c20_2)))⟩
def c21_0 : AC :=
  .seq (.region 0 [.mk4 0 (some 6) (.mv (.t 0)) none,
    .mk4 1 (some 7) (.mkMap) none,
    .mk4 2 (some 8) (.build [.ptr none, .map none] [(0, 1, (.t 6)), (1, 1, (.t 7))]) none,
    .mk4 3 (some 9) (.box 2 (.t 8)) none,
    .mk4 4 (some 2) (.mv (.t 9)) none,
    .mk4 5 (some 3) (.mv (.c (.i 0))) none] [2, 3]) (.ret)
def c21_1 : AC :=
  .seq (.region 0 [.mk4 0 (some 2) (.mv (.c (.ptr none))) none,
    .mk4 1 (some 3) (.mv (.c (.i 0))) none] [0]) (.seq (.seq (.region 0 [.mk4 0 (some 4) (.mv (.t 0)) none,
    .mk4 1 (some 5) (.eq .ptr false (.t 4) (.c (.ptr none))) none] [0, 5]) (.cond (.t 5) (.seq (.region 0 [.mk4 0 (some 2) (.mv (.c (.ptr none))) none,
    .mk4 1 (some 3) (.mv (.c (.i 1))) none] [2, 3]) (.ret)) (.skip))) (c21_0))
def c21 : AFn := ⟨1, 10, [.tmp 2, .tmp 3],
  (c21_1)⟩
def c22_0 : AC :=
  .seq (.region 0 [.mk4 0 (some 12) (.mv (.t 5)) none,
    .mk4 1 (some 13) (.bin .neq (.t 12) (.c (.str []))) none] [3, 8, 9, 13]) (.cond (.t 13) (.region 0 [.mk4 0 (some 14) (.mv (.t 3)) none,
    .mk4 1 (some 15) (.bin .add (.t 14) (.c (.i 1))) none,
    .mk4 2 (some 3) (.mv (.t 15)) none] [3, 8, 9]) (.skip))
def c22_1 : AC :=
  .seq (.cond (.t 10) (.skip) (.exit 0)) (.seq (.block 1 (.seq (.region 0 [.mk4 0 (some 11) (.ixA 6 1 none (.t 8) (.t 9)) none,
    .mk4 1 (some 5) (.mv (.t 11)) none] [3, 5, 8, 9]) (c22_0))) (.region 0 [.mk4 0 (some 16) (.bin .add (.t 9) (.c (.i 1))) none,
    .mk4 1 (some 9) (.mv (.t 16)) none] [3, 8, 9]))
def c22_2 : AC :=
  .seq (.seq (.region 0 [.mk4 0 (some 6) (.mv (.t 0)) none,
    .mk4 1 (some 7) (.ixaA 3 6 (.c (.p 1 0)) (.t 6)) none,
    .mk4 2 (some 8) (.loadN 6 (.t 7)) none,
    .mk4 3 (some 9) (.mv (.c (.i 0))) none] [3, 8, 9]) (.block 0 (.loop [3, 8, 9] (.seq (.region 0 [.mk4 0 (some 10) (.bin .lss (.t 9) (.c (.i 6))) none] [3, 8, 9, 10]) (c22_1))))) (.seq (.region 0 [.mk4 0 (some 17) (.mv (.t 3)) none,
    .mk4 1 (some 2) (.mv (.t 17)) none] [2]) (.ret))
def c22 : AFn := ⟨1, 18, [.tmp 2],
  (.seq (.region 0 [.mk4 0 (some 2) (.mv (.c (.i 0))) none] [0]) (.seq (.region 0 [.mk4 0 (some 3) (.mv (.c (.i 0))) none] [0, 3]) (c22_2)))⟩
def c23_0 : AC :=
  .seq (.region 0 [.mk4 0 (some 4) (.mv (.c (.bool false))) none] [0, 1]) (.seq (.region 0 [.mk4 0 (some 5) (.mv (.t 0)) none,
    .mk4 1 (some 6) (.mv (.t 1)) none,
    .mk4 2 (some 7) (.call 26 [(.t 5), (.t 6)]) none,
    .mk4 3 (some 8) (.bin .geq (.t 7) (.c (.i 0))) none,
    .mk4 4 (some 4) (.mv (.t 8)) none] [4]) (.ret))
def c23 : AFn := ⟨2, 9, [.tmp 4],
  (c23_0)⟩
def c24_0 : AC :=
  .seq (.region 0 [.mk4 0 (some 5) (.mv (.t 0)) none,
    .mk4 1 (some 6) (.mv (.t 1)) none,
    .mk4 2 (some 7) (.bin .quo (.t 5) (.t 6)) none,
    .mk4 3 (some 8) (.bin .rem (.t 7) (.c (.i 2))) none,
    .mk4 4 (some 9) (.bin .eql (.t 8) (.c (.i 1))) none,
    .mk4 5 (some 4) (.mv (.t 9)) none] [4]) (.ret)
def c24 : AFn := ⟨2, 10, [.tmp 4],
  (.seq (.region 0 [.mk4 0 (some 4) (.mv (.c (.bool false))) none] [0, 1]) (c24_0))⟩
def c25_0 : AC :=
  .seq (.region 0 [.mk4 0 (some 3) (.mv (.t 0)) none,
    .mk4 1 (some 4) (.bin .geq (.t 3) (.c (.i 1))) none,
    .mk4 2 (some 5) (.mv (.t 4)) none,
    .mk4 3 (some 6) (.mv (.t 0)) (some (5, true)),
    .mk4 4 (some 7) (.bin .leq (.t 6) (.c (.i 4))) (some (5, true)),
    .mk4 5 (some 8) (.pick (.t 5) (.t 7) (.c (.bool false))) none,
    .mk4 6 (some 2) (.mv (.t 8)) none] [2]) (.ret)
def c25 : AFn := ⟨1, 9, [.tmp 2],
  (.seq (.region 0 [.mk4 0 (some 2) (.mv (.c (.bool false))) none] [0]) (c25_0))⟩
def c26_0 : AC :=
  .seq (.region 0 [.mk4 0 (some 11) (.mv (.t 1)) none,
    .mk4 1 (some 12) (.mv (.t 0)) none,
    .mk4 2 (some 13) (.mv (.t 5)) none,
    .mk4 3 (some 14) (.ixaS 1 (.t 12) (.t 13)) none,
    .mk4 4 (some 15) (.load1 (.t 14)) none,
    .mk4 5 (some 16) (.bin .eql (.t 11) (.t 15)) none] [0, 1, 5, 7, 8, 16]) (.cond (.t 16) (.seq (.region 0 [.mk4 0 (some 17) (.mv (.t 5)) none,
    .mk4 1 (some 4) (.mv (.t 17)) none] [4]) (.ret)) (.skip))
def c26_1 : AC :=
  .seq (.region 0 [.mk4 0 (some 9) (.bin .lss (.t 8) (.t 7)) none] [0, 1, 7, 8, 9]) (.seq (.cond (.t 9) (.skip) (.exit 0)) (.seq (.block 1 (.seq (.region 0 [.mk4 0 (some 10) (.mv (.t 8)) none,
    .mk4 1 (some 5) (.mv (.t 10)) none] [0, 1, 5, 7, 8]) (c26_0))) (.region 0 [.mk4 0 (some 18) (.bin .add (.t 8) (.c (.i 1))) none,
    .mk4 1 (some 8) (.mv (.t 18)) none] [0, 1, 7, 8])))
def c26_2 : AC :=
  .seq (.region 0 [.mk4 0 (some 4) (.mv (.c (.i 0))) none] [0, 1]) (.seq (.seq (.region 0 [.mk4 0 (some 6) (.mv (.t 0)) none,
    .mk4 1 (some 7) (.lenL (.t 6)) none,
    .mk4 2 (some 8) (.mv (.c (.i 0))) none] [0, 1, 7, 8]) (.block 0 (.loop [0, 1, 7, 8] (c26_1)))) (.seq (.region 0 [.mk4 0 (some 4) (.mv (.c (.i (-1)))) none] [4]) (.ret)))
def c26 : AFn := ⟨2, 19, [.tmp 4],
  (c26_2)⟩
def prog : Prog := { fns := [(3, c3), (4, c4), (5, c5), (6, c6), (7, c7), (8, c8), (9, c9), (10, c10), (11, c11), (12, c12), (13, c13), (14, c14), (15, c15), (16, c16), (17, c17), (18, c18), (19, c19), (20, c20), (21, c21), (22, c22), (23, c23), (24, c24), (25, c25), (26, c26)], prims := [] }
def cx : Cx := ⟨[(3, ⟨.int .i64, 1, 8, (some (.i 0)), false⟩),
  (4, ⟨.bool, 1, 1, (some (.bool false)), false⟩),
  (5, ⟨.int .u8, 1, 1, (some (.int .u8 0)), false⟩),
  (9, ⟨.str, 1, 16, (some (.str [])), false⟩),
  (22, ⟨.slice 3, 1, 24, (some (.nils)), false⟩),
  (23, ⟨.ptr 44, 1, 8, (some (.ptr none)), false⟩),
  (25, ⟨.ptr 54, 1, 8, (some (.ptr none)), false⟩),
  (26, ⟨.int .i64, 1, 8, (some (.i 0)), false⟩),
  (36, ⟨.ptr 62, 1, 8, (some (.ptr none)), false⟩),
  (39, ⟨.struct [(0, 4), (1, 3), (2, 3)], 3, 24, (some (.agg [.bool false, .i 0, .i 0])), false⟩),
  (40, ⟨.array 96 39, 288, 2304, (some (.agg ((List.replicate 96 ([.bool false, .i 0, .i 0] : List V)).flatten))), false⟩),
  (41, ⟨.slice 114, 1, 24, (some (.nils)), false⟩),
  (42, ⟨.int .u64, 1, 8, (some (.int .u64 0)), false⟩),
  (44, ⟨.struct [(0, 40), (288, 41), (289, 36), (290, 42), (291, 39)], 294, 2368, (some (.agg ((List.replicate 96 ([.bool false, .i 0, .i 0] : List V)).flatten ++ [.nils, .ptr none, .int .u64 0, .bool false, .i 0, .i 0]))), false⟩),
  (46, ⟨.iface, 1, 16, (some (.nili)), false⟩),
  (47, ⟨.ptr 65, 1, 8, (some (.ptr none)), false⟩),
  (50, ⟨.ptr 71, 1, 8, (some (.ptr none)), false⟩),
  (54, ⟨.struct [(0, 46), (1, 3)], 2, 24, (some (.agg [.nili, .i 0])), false⟩),
  (59, ⟨.array 32 4, 32, 32, (some (.agg (List.replicate 32 (.bool false : V)))), false⟩),
  (60, ⟨.array 32 3, 32, 256, (some (.agg (List.replicate 32 (.i 0 : V)))), false⟩),
  (62, ⟨.struct [(0, 59), (32, 60)], 64, 288, (some (.agg (List.replicate 32 (.bool false : V) ++ List.replicate 32 (.i 0 : V)))), false⟩),
  (63, ⟨.array 96 3, 96, 768, (some (.agg (List.replicate 96 (.i 0 : V)))), false⟩),
  (65, ⟨.struct [(0, 23), (1, 3), (2, 63), (98, 3)], 99, 792, (some (.agg ([.ptr none] ++ List.replicate 98 (.i 0 : V)))), false⟩),
  (66, ⟨.ptr 89, 1, 8, (some (.ptr none)), false⟩),
  (69, ⟨.iface, 1, 16, (some (.nili)), false⟩),
  (71, ⟨.struct [(0, 23), (1, 69), (2, 66), (3, 3), (4, 3), (5, 3)], 6, 56, (some (.agg [.ptr none, .nili, .ptr none, .i 0, .i 0, .i 0])), false⟩),
  (72, ⟨.ptr 92, 1, 8, (some (.ptr none)), false⟩),
  (75, ⟨.ptr 77, 1, 8, (some (.ptr none)), false⟩),
  (77, ⟨.struct [(0, 72), (1, 3), (2, 66)], 3, 24, (some (.agg [.ptr none, .i 0, .ptr none])), false⟩),
  (78, ⟨.ptr 95, 1, 8, (some (.ptr none)), false⟩),
  (81, ⟨.ptr 83, 1, 8, (some (.ptr none)), false⟩),
  (83, ⟨.struct [(0, 78)], 1, 8, (some (.agg [.ptr none])), false⟩),
  (87, ⟨.array 4 3, 4, 32, (some (.agg [.i 0, .i 0, .i 0, .i 0])), false⟩),
  (89, ⟨.struct [(0, 63), (96, 63), (192, 4)], 193, 1544, (some (.agg (List.replicate 192 (.i 0 : V) ++ [.bool false]))), false⟩),
  (90, ⟨.map 3 123, 1, 8, (some (.map none)), false⟩),
  (92, ⟨.struct [(0, 23), (1, 3), (2, 90)], 3, 24, (some (.agg [.ptr none, .i 0, .map none])), false⟩),
  (93, ⟨.map 125 127, 1, 8, (some (.map none)), false⟩),
  (95, ⟨.struct [(0, 23), (1, 93)], 2, 16, (some (.agg [.ptr none, .map none])), false⟩),
  (96, ⟨.array 6 9, 6, 96, (some (.agg [.str [], .str [], .str [], .str [], .str [], .str []])), false⟩),
  (97, ⟨.array 3 96, 18, 288, (some (.agg (List.replicate 18 (.str [] : V)))), false⟩),
  (114, ⟨.ptr 134, 1, 8, (some (.ptr none)), false⟩),
  (123, ⟨.struct [(0, 3), (1, 3), (2, 3), (3, 42), (4, 42)], 5, 40, (some (.agg [.i 0, .i 0, .i 0, .int .u64 0, .int .u64 0])), false⟩),
  (125, ⟨.struct [(0, 3), (1, 3)], 2, 16, (some (.agg [.i 0, .i 0])), false⟩),
  (127, ⟨.struct [(0, 3), (1, 3), (2, 4), (3, 42)], 4, 32, (some (.agg [.i 0, .i 0, .bool false, .int .u64 0])), false⟩),
  (129, ⟨.ptr 143, 1, 8, (some (.ptr none)), false⟩),
  (131, ⟨.struct [(0, 3), (1, 3), (2, 129), (3, 4), (4, 4), (5, 42), (6, 42)], 7, 48, (some (.agg [.i 0, .i 0, .ptr none, .bool false, .bool false, .int .u64 0, .int .u64 0])), false⟩),
  (132, ⟨.array 2 131, 14, 96, (some (.agg [.i 0, .i 0, .ptr none, .bool false, .bool false, .int .u64 0, .int .u64 0, .i 0, .i 0, .ptr none, .bool false, .bool false, .int .u64 0, .int .u64 0])), false⟩),
  (134, ⟨.struct [(0, 132), (14, 4), (15, 3), (16, 22)], 17, 136, (some (.agg [.i 0, .i 0, .ptr none, .bool false, .bool false, .int .u64 0, .int .u64 0, .i 0, .i 0, .ptr none, .bool false, .bool false, .int .u64 0, .int .u64 0, .bool false, .i 0, .nils])), false⟩),
  (141, ⟨.slice 5, 1, 24, (some (.nils)), false⟩),
  (143, ⟨.struct [(0, 141), (1, 3), (2, 3), (3, 42), (4, 42), (5, 4)], 6, 64, (some (.agg [.nils, .i 0, .i 0, .int .u64 0, .int .u64 0, .bool false])), false⟩)], [0, 1]⟩
def lit_roundhouse_flag_words : List V := [.str [116, 105, 109, 101, 111, 117, 116], .str [114, 101, 97, 100], .str [119, 114, 105, 116, 101], .str [115, 105, 103, 110, 97, 108], .str [112, 101, 114, 115, 105, 115, 116], .str [101, 100, 103, 101], .str [101, 100, 103, 101], .str [98, 105, 103], .str [115, 105, 103, 110, 97, 108, 115], .str [99, 104, 97, 110, 103, 101, 115], .str [], .str [], .str [115, 101, 108, 101, 99, 116], .str [112, 111, 108, 108], .str [101, 112, 111, 108, 108], .str [107, 113, 117, 101, 117, 101], .str [], .str []]
def lit_roundhouse_flag_has : List V := [.i 0, .i 2, .i 11, .i 15]
namespace F
abbrev roundhouselaw21_DriverMakes : Nat := 3
abbrev world_New : Nat := 4
abbrev driver_New : Nat := 5
abbrev roundhouseref21_New : Nat := 6
abbrev driver_Choose : Nat := 7
abbrev roundhouseref21_Choose : Nat := 8
abbrev driver_Driver_Kind : Nat := 9
abbrev driver_Driver_Features : Nat := 10
abbrev roundhouseref05_Features : Nat := 11
abbrev sigs_New : Nat := 12
abbrev dpoll_New : Nat := 13
abbrev dqueue_New : Nat := 14
abbrev flag_Choose : Nat := 15
abbrev roundhouseref05_Choose : Nat := 16
abbrev driver_Driver_none : Nat := 17
abbrev flag_Features : Nat := 18
abbrev change_New : Nat := 19
abbrev epl_New : Nat := 20
abbrev kqu_New : Nat := 21
abbrev flag_many : Nat := 22
abbrev slices_Contains_int_int : Nat := 23
abbrev roundhouseref05_bit : Nat := 24
abbrev flag_known : Nat := 25
abbrev slices_Index_int_int : Nat := 26
end F
end Am.Sigs
