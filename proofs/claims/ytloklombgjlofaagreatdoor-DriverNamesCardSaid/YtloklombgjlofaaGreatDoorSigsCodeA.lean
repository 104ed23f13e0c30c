/- Code of functions, as the abstract machine takes it: printed by a program. -/
import Derived.Test.YtloklombgjlofaaGreatDoorPrim
set_option maxRecDepth 100000
namespace Am.Sigs
open Am Go
def c4_0 : AC :=
  .seq (.region 0 [.mk4 0 (some 70) (.call 5 []) none,
    .mk4 1 (some 71) (.mv (.t 70)) none,
    .mk4 2 (some 72) (.mv (.t 3)) (some (71, true)),
    .mk4 3 (some 73) (.bin .eql (.t 72) (.c (.i 0))) (some (71, true)),
    .mk4 4 (some 74) (.pick (.t 71) (.t 73) (.c (.bool false))) none,
    .mk4 5 (some 75) (.mv (.t 74)) none,
    .mk4 6 (some 76) (.mv (.t 2)) (some (75, true)),
    .mk4 7 (some 77) (.call 13 [(.t 76)]) (some (75, true)),
    .mk4 8 (some 78) (.bin .eql (.t 77) (.c (.i 3))) (some (75, true)),
    .mk4 9 (some 79) (.pick (.t 75) (.t 78) (.c (.bool false))) none,
    .mk4 10 (some 80) (.mv (.t 79)) none,
    .mk4 11 (some 81) (.mv (.t 5)) (some (80, true)),
    .mk4 12 (some 82) (.bin .eql (.t 81) (.c (.i 2))) (some (80, true)),
    .mk4 13 (some 83) (.pick (.t 80) (.t 82) (.c (.bool false))) none,
    .mk4 14 (some 84) (.mv (.t 83)) none,
    .mk4 15 (some 85) (.mv (.t 7)) (some (84, true)),
    .mk4 16 (some 86) (.bin .eql (.t 85) (.c (.i 2))) (some (84, true)),
    .mk4 17 (some 87) (.pick (.t 84) (.t 86) (.c (.bool false))) none,
    .mk4 18 (some 88) (.mv (.t 87)) none,
    .mk4 19 (some 89) (.mv (.t 9)) (some (88, true)),
    .mk4 20 (some 90) (.bin .eql (.t 89) (.c (.i 0))) (some (88, true)),
    .mk4 21 (some 91) (.pick (.t 88) (.t 90) (.c (.bool false))) none,
    .mk4 22 (some 92) (.mv (.t 91)) none,
    .mk4 23 (some 93) (.mv (.t 8)) (some (92, true)),
    .mk4 24 (some 94) (.call 13 [(.t 93)]) (some (92, true)),
    .mk4 25 (some 95) (.bin .eql (.t 94) (.c (.i 3))) (some (92, true)),
    .mk4 26 (some 96) (.pick (.t 92) (.t 95) (.c (.bool false))) none,
    .mk4 27 (some 97) (.mv (.t 96)) none,
    .mk4 28 (some 98) (.mv (.t 11)) (some (97, true)),
    .mk4 29 (some 99) (.bin .eql (.t 98) (.c (.i 51))) (some (97, true)),
    .mk4 30 (some 100) (.pick (.t 97) (.t 99) (.c (.bool false))) none,
    .mk4 31 (some 101) (.mv (.t 100)) none,
    .mk4 32 (some 102) (.mv (.t 13)) (some (101, true)),
    .mk4 33 (some 103) (.bin .eql (.t 102) (.c (.i 50))) (some (101, true)),
    .mk4 34 (some 104) (.pick (.t 101) (.t 103) (.c (.bool false))) none,
    .mk4 35 (some 105) (.mv (.t 104)) none,
    .mk4 36 (some 106) (.mv (.t 15)) (some (105, true)),
    .mk4 37 (some 107) (.bin .eql (.t 106) (.c (.i 1))) (some (105, true)),
    .mk4 38 (some 108) (.pick (.t 105) (.t 107) (.c (.bool false))) none,
    .mk4 39 (some 109) (.mv (.t 108)) none,
    .mk4 40 (some 110) (.mv (.t 17)) (some (109, true)),
    .mk4 41 (some 111) (.bin .eql (.t 110) (.c (.i 2))) (some (109, true)),
    .mk4 42 (some 112) (.pick (.t 109) (.t 111) (.c (.bool false))) none,
    .mk4 43 (some 113) (.mv (.t 112)) none,
    .mk4 44 (some 114) (.mv (.t 22)) (some (113, true)),
    .mk4 45 (some 115) (.bin .eql (.t 114) (.c (.i 1))) (some (113, true)),
    .mk4 46 (some 116) (.pick (.t 113) (.t 115) (.c (.bool false))) none,
    .mk4 47 (some 117) (.mv (.t 116)) none,
    .mk4 48 (some 118) (.mv (.t 18)) (some (117, true)),
    .mk4 49 (some 119) (.call 13 [(.t 118)]) (some (117, true)),
    .mk4 50 (some 120) (.bin .eql (.t 119) (.c (.i 0))) (some (117, true)),
    .mk4 51 (some 121) (.pick (.t 117) (.t 120) (.c (.bool false))) none,
    .mk4 52 (some 122) (.mv (.t 121)) none,
    .mk4 53 (some 123) (.mv (.t 18)) (some (122, true)),
    .mk4 54 (some 124) (.call 10 [(.t 123)]) (some (122, true)),
    .mk4 55 (some 125) (.bin .eql (.t 124) (.c (.i 0))) (some (122, true)),
    .mk4 56 (some 126) (.pick (.t 122) (.t 125) (.c (.bool false))) none,
    .mk4 57 (some 127) (.mv (.t 126)) none,
    .mk4 58 (some 128) (.mv (.t 18)) (some (127, true)),
    .mk4 59 (some 129) (.call 9 [(.t 128), (.c (.i 0)), (.c (.i 2))]) (some (127, true)),
    .mk4 60 (some 130) (.bin .eql (.t 129) (.c (.i 1))) (some (127, true)),
    .mk4 61 (some 131) (.pick (.t 127) (.t 130) (.c (.bool false))) none,
    .mk4 62 (some 132) (.mv (.t 131)) none,
    .mk4 63 (some 133) (.mv (.t 18)) (some (132, true)),
    .mk4 64 (some 134) (.call 14 [(.t 133), (.c (.i 0))]) (some (132, true)),
    .mk4 65 (some 135) (.bin .eql (.t 134) (.c (.i 1))) (some (132, true)),
    .mk4 66 (some 136) (.pick (.t 132) (.t 135) (.c (.bool false))) none,
    .mk4 67 (some 137) (.mv (.t 136)) none,
    .mk4 68 (some 138) (.mv (.t 18)) (some (137, true)),
    .mk4 69 (some 139) (.call 15 [(.t 138), (.c (.i 0))]) (some (137, true)),
    .mk4 70 (some 140) (.bin .eql (.t 139) (.c (.i 0))) (some (137, true)),
    .mk4 71 (some 141) (.pick (.t 137) (.t 140) (.c (.bool false))) none,
    .mk4 72 (some 0) (.mv (.t 141)) none] [0]) (.ret)
def c4_1 : AC :=
  .seq (.region 0 [.mk4 0 (some 64) (.mv (.t 18)) none,
    .mk4 1 (some 65) (.call 12 [(.t 64), (.c (.ptr none)), (.c (.int .u64 0)), (.c (.bool false))]) none,
    .mk4 2 (some 63) (.mv (.t 65)) none,
    .mk4 3 (some 66) (.extract (.t 63) 0) none,
    .mk4 4 (some 67) (.extract (.t 63) 1) none,
    .mk4 5 (some 68) (.extract (.t 63) 2) none,
    .mk4 6 (some 69) (.extract (.t 63) 3) none,
    .mk4 7 (some 19) (.mv (.t 66)) none,
    .mk4 8 (some 20) (.mv (.t 67)) none,
    .mk4 9 (some 21) (.mv (.t 68)) none,
    .mk4 10 (some 22) (.mv (.t 69)) none] [2, 3, 5, 7, 8, 9, 11, 13, 15, 17, 18, 22]) (c4_0)
def c4_2 : AC :=
  .seq (.region 0 [.mk4 0 (some 59) (.mv (.t 1)) none,
    .mk4 1 (some 60) (.call 11 [(.t 59), (.c (.i 0)), (.c (.i 0)), (.c (.nils)), (.c (.i 257))]) none,
    .mk4 2 (some 58) (.mv (.t 60)) none,
    .mk4 3 (some 61) (.extract (.t 58) 0) none,
    .mk4 4 (some 62) (.extract (.t 58) 1) none,
    .mk4 5 (some 16) (.mv (.t 61)) none,
    .mk4 6 (some 17) (.mv (.t 62)) none] [2, 3, 5, 7, 8, 9, 11, 13, 15, 17]) (.seq (.region 0 [.mk4 0 (some 18) (.mv (.c (.ptr none))) none] [2, 3, 5, 7, 8, 9, 11, 13, 15, 17, 18]) (c4_1))
def c4_3 : AC :=
  .seq (.region 0 [.mk4 0 (some 55) (.call 8 [(.c (.ptr none)), (.c (.i 2)), (.c (.i 4))]) none,
    .mk4 1 (some 54) (.mv (.t 55)) none,
    .mk4 2 (some 56) (.extract (.t 54) 0) none,
    .mk4 3 (some 57) (.extract (.t 54) 1) none,
    .mk4 4 (some 14) (.mv (.t 56)) none,
    .mk4 5 (some 15) (.mv (.t 57)) none] [1, 2, 3, 5, 7, 8, 9, 11, 13, 15]) (c4_2)
def c4_4 : AC :=
  .seq (.region 0 [.mk4 0 (some 50) (.mv (.t 1)) none,
    .mk4 1 (some 51) (.call 11 [(.t 50), (.c (.i 16)), (.c (.i 0)), (.c (.nils)), (.c (.i 4))]) none,
    .mk4 2 (some 49) (.mv (.t 51)) none,
    .mk4 3 (some 52) (.extract (.t 49) 0) none,
    .mk4 4 (some 53) (.extract (.t 49) 1) none,
    .mk4 5 (some 12) (.mv (.t 52)) none,
    .mk4 6 (some 13) (.mv (.t 53)) none] [1, 2, 3, 5, 7, 8, 9, 11, 13]) (c4_3)
def c4_5 : AC :=
  .seq (.region 0 [.mk4 0 (some 45) (.mv (.t 1)) none,
    .mk4 1 (some 46) (.call 11 [(.t 45), (.c (.i 1)), (.c (.i 2)), (.c (.nils)), (.c (.i 4))]) none,
    .mk4 2 (some 44) (.mv (.t 46)) none,
    .mk4 3 (some 47) (.extract (.t 44) 0) none,
    .mk4 4 (some 48) (.extract (.t 44) 1) none,
    .mk4 5 (some 10) (.mv (.t 47)) none,
    .mk4 6 (some 11) (.mv (.t 48)) none] [1, 2, 3, 5, 7, 8, 9, 11]) (c4_4)
def c4_6 : AC :=
  .seq (.region 0 [.mk4 0 (some 40) (.mv (.t 1)) none,
    .mk4 1 (some 41) (.call 11 [(.t 40), (.c (.i 1)), (.c (.i 4)), (.c (.nils)), (.c (.i 4))]) none,
    .mk4 2 (some 39) (.mv (.t 41)) none,
    .mk4 3 (some 42) (.extract (.t 39) 0) none,
    .mk4 4 (some 43) (.extract (.t 39) 1) none,
    .mk4 5 (some 8) (.mv (.t 42)) none,
    .mk4 6 (some 9) (.mv (.t 43)) none] [1, 2, 3, 5, 7, 8, 9]) (c4_5)
def c4_7 : AC :=
  .seq (.region 0 [.mk4 0 (some 35) (.mv (.t 1)) none,
    .mk4 1 (some 36) (.call 8 [(.t 35), (.c (.i 2)), (.c (.i 0))]) none,
    .mk4 2 (some 34) (.mv (.t 36)) none,
    .mk4 3 (some 37) (.extract (.t 34) 0) none,
    .mk4 4 (some 38) (.extract (.t 34) 1) none,
    .mk4 5 (some 6) (.mv (.t 37)) none,
    .mk4 6 (some 7) (.mv (.t 38)) none] [1, 2, 3, 5, 7]) (c4_6)
def c4_8 : AC :=
  .seq (.region 0 [.mk4 0 (some 30) (.mv (.t 1)) none,
    .mk4 1 (some 31) (.call 8 [(.t 30), (.c (.i 5)), (.c (.i 4))]) none,
    .mk4 2 (some 29) (.mv (.t 31)) none,
    .mk4 3 (some 32) (.extract (.t 29) 0) none,
    .mk4 4 (some 33) (.extract (.t 29) 1) none,
    .mk4 5 (some 4) (.mv (.t 32)) none,
    .mk4 6 (some 5) (.mv (.t 33)) none] [1, 2, 3, 5]) (c4_7)
def c4_9 : AC :=
  .seq (.region 0 [.mk4 0 (some 25) (.mv (.t 1)) none,
    .mk4 1 (some 26) (.call 8 [(.t 25), (.c (.i 3)), (.c (.i 4))]) none,
    .mk4 2 (some 24) (.mv (.t 26)) none,
    .mk4 3 (some 27) (.extract (.t 24) 0) none,
    .mk4 4 (some 28) (.extract (.t 24) 1) none,
    .mk4 5 (some 2) (.mv (.t 27)) none,
    .mk4 6 (some 3) (.mv (.t 28)) none] [1, 2, 3]) (c4_8)
def c4 : AFn := ⟨0, 142, [.tmp 0],
  (.seq (.region 0 [.mk4 0 (some 0) (.mv (.c (.bool false))) none] []) (.seq (.region 0 [.mk4 0 (some 23) (.call 6 []) none,
    .mk4 1 (some 1) (.mv (.t 23)) none] [1]) (c4_9)))⟩
def c5_0 : AC :=
  .seq (.region 0 [.mk4 0 (some 32) (.mv (.t 4)) none,
    .mk4 1 (some 33) (.bin .neq (.t 32) (.c (.i 0))) none,
    .mk4 2 (some 34) (.mv (.t 33)) none,
    .mk4 3 (some 35) (.mv (.t 5)) (some (34, false)),
    .mk4 4 (some 36) (.bin .neq (.t 35) (.c (.i 0))) (some (34, false)),
    .mk4 5 (some 37) (.pick (.t 34) (.c (.bool true)) (.t 36)) none,
    .mk4 6 (some 38) (.mv (.t 37)) none,
    .mk4 7 (some 39) (.mv (.t 9)) (some (38, false)),
    .mk4 8 (some 40) (.bin .neq (.t 39) (.c (.i 0))) (some (38, false)),
    .mk4 9 (some 41) (.pick (.t 38) (.c (.bool true)) (.t 40)) none,
    .mk4 10 (some 42) (.mv (.t 41)) none,
    .mk4 11 (some 43) (.mv (.t 3)) (some (42, false)),
    .mk4 12 (some 44) (.call 13 [(.t 43)]) (some (42, false)),
    .mk4 13 (some 45) (.mv (.t 1)) (some (42, false)),
    .mk4 14 (some 46) (.bin .neq (.t 44) (.t 45)) (some (42, false)),
    .mk4 15 (some 47) (.pick (.t 42) (.c (.bool true)) (.t 46)) none,
    .mk4 16 (some 48) (.mv (.t 47)) none,
    .mk4 17 (some 49) (.mv (.t 6)) (some (48, false)),
    .mk4 18 (some 50) (.lenL (.t 49)) (some (48, false)),
    .mk4 19 (some 51) (.bin .neq (.t 50) (.c (.i 1))) (some (48, false)),
    .mk4 20 (some 52) (.pick (.t 48) (.c (.bool true)) (.t 51)) none,
    .mk4 21 (some 53) (.mv (.t 52)) none,
    .mk4 22 (some 54) (.mv (.t 6)) (some (53, false)),
    .mk4 23 (some 55) (.ixaS 2 (.t 54) (.c (.i 0))) (some (53, false)),
    .mk4 24 (some 56) (.loadN 2 (.t 55)) (some (53, false)),
    .mk4 25 (some 57) (.build [.i 0, .i 0] [(0, 1, (.c (.i 0))), (1, 1, (.c (.i 4)))]) (some (53, false)),
    .mk4 26 (some 58) (.eq (.agg [.int .i64, .int .i64]) true (.t 56) (.t 57)) (some (53, false)),
    .mk4 27 (some 59) (.pick (.t 53) (.c (.bool true)) (.t 58)) none,
    .mk4 28 (some 60) (.mv (.t 59)) none,
    .mk4 29 (some 61) (.mv (.t 7)) (some (60, false)),
    .mk4 30 (some 62) (.lenL (.t 61)) (some (60, false)),
    .mk4 31 (some 63) (.bin .neq (.t 62) (.c (.i 0))) (some (60, false)),
    .mk4 32 (some 64) (.pick (.t 60) (.c (.bool true)) (.t 63)) none,
    .mk4 33 (some 65) (.mv (.t 64)) none,
    .mk4 34 (some 66) (.mv (.t 8)) (some (65, false)),
    .mk4 35 (some 67) (.bin .neq (.t 66) (.c (.i 1))) (some (65, false)),
    .mk4 36 (some 68) (.pick (.t 65) (.c (.bool true)) (.t 67)) none] [1, 68]) (.cond (.t 68) (.seq (.region 0 [.mk4 0 (some 0) (.mv (.c (.bool false))) none] [0]) (.ret)) (.skip))
def c5_1 : AC :=
  .seq (.region 0 [.mk4 0 (some 26) (.mv (.t 3)) none,
    .mk4 1 (some 27) (.call 12 [(.t 26), (.c (.ptr none)), (.c (.int .u64 5)), (.c (.bool false))]) none,
    .mk4 2 (some 25) (.mv (.t 27)) none,
    .mk4 3 (some 28) (.extract (.t 25) 0) none,
    .mk4 4 (some 29) (.extract (.t 25) 1) none,
    .mk4 5 (some 30) (.extract (.t 25) 2) none,
    .mk4 6 (some 31) (.extract (.t 25) 3) none,
    .mk4 7 (some 6) (.mv (.t 28)) none,
    .mk4 8 (some 7) (.mv (.t 29)) none,
    .mk4 9 (some 8) (.mv (.t 30)) none,
    .mk4 10 (some 9) (.mv (.t 31)) none] [1, 3, 4, 5, 6, 7, 8, 9]) (c5_0)
def c5_2 : AC :=
  .seq (.region 0 [.mk4 0 (some 18) (.mv (.t 2)) none,
    .mk4 1 (some 19) (.mv (.t 1)) none,
    .mk4 2 (some 20) (.call 8 [(.t 18), (.t 19), (.c (.i 4))]) none,
    .mk4 3 (some 17) (.mv (.t 20)) none,
    .mk4 4 (some 21) (.extract (.t 17) 0) none,
    .mk4 5 (some 22) (.extract (.t 17) 1) none,
    .mk4 6 (some 3) (.mv (.t 21)) none,
    .mk4 7 (some 4) (.mv (.t 22)) none] [1, 3, 4]) (.seq (.region 0 [.mk4 0 (some 23) (.mv (.t 3)) none,
    .mk4 1 (some 24) (.call 9 [(.t 23), (.c (.i 0)), (.c (.i 4))]) none,
    .mk4 2 (some 5) (.mv (.t 24)) none] [1, 3, 4, 5]) (c5_1))
def c5_3 : AC :=
  .seq (.block 1 (.seq (.region 0 [.mk4 0 (some 14) (.call 6 []) none,
    .mk4 1 (some 2) (.mv (.t 14)) none] [1, 2]) (.seq (.region 0 [.mk4 0 (some 15) (.mv (.t 2)) none,
    .mk4 1 (some 16) (.call 16 [(.t 15), (.c (.i 4))]) none] [1, 2]) (c5_2)))) (.region 0 [.mk4 0 (some 12) (.mv (.t 1)) none,
    .mk4 1 (some 13) (.bin .add (.t 12) (.c (.i 1))) none,
    .mk4 2 (some 1) (.mv (.t 13)) none] [1])
def c5_4 : AC :=
  .seq (.seq (.region 0 [.mk4 0 (some 1) (.mv (.c (.i 1))) none] [1]) (.block 0 (.loop [1] (.seq (.seq (.region 0 [.mk4 0 (some 10) (.mv (.t 1)) none,
    .mk4 1 (some 11) (.bin .leq (.t 10) (.c (.i 4))) none] [1, 11]) (.cond (.t 11) (.skip) (.exit 0))) (c5_3))))) (.seq (.region 0 [.mk4 0 (some 0) (.mv (.c (.bool true))) none] [0]) (.ret))
def c5 : AFn := ⟨0, 69, [.tmp 0],
  (.seq (.region 0 [.mk4 0 (some 0) (.mv (.c (.bool false))) none] []) (c5_4))⟩
def c6_0 : AC :=
  .seq (.region 0 [.mk4 0 (some 1) (.call 17 []) none,
    .mk4 1 (some 2) (.build ((List.replicate 96 ([.bool false, .i 0, .i 0] : List V)).flatten ++ [.nils, .ptr none, .int .u64 0, .bool false, .i 0, .i 0]) [(289, 1, (.t 1))]) none,
    .mk4 2 (some 3) (.box 294 (.t 2)) none,
    .mk4 3 (some 0) (.mv (.t 3)) none] [0]) (.ret)
def c6 : AFn := ⟨0, 4, [.tmp 0],
  (.seq (.region 0 [.mk4 0 (some 0) (.mv (.c (.ptr none))) none] []) (c6_0))⟩
def c8_0 : AC :=
  .seq (.region 0 [.mk4 0 (some 49) (.mv (.t 8)) none,
    .mk4 1 (some 50) (.mv (.t 1)) none,
    .mk4 2 (some 51) (.build [.nili, .i 0] [(0, 1, (.t 49)), (1, 1, (.t 50))]) none,
    .mk4 3 (some 52) (.box 2 (.t 51)) none,
    .mk4 4 (some 6) (.mv (.t 52)) none,
    .mk4 5 (some 7) (.mv (.c (.i 0))) none] [6, 7]) (.ret)
def c8_1 : AC :=
  .seq (.seq (.seq (.region 0 [.mk4 0 (some 28) (.bin .eql (.t 26) (.c (.i 1))) none,
    .mk4 1 (some 27) (.mv (.t 28)) none] [0, 1, 2, 26, 27]) (.cond (.t 27) (.exit 2) (.skip))) (.seq (.region 0 [.mk4 0 (some 30) (.bin .eql (.t 26) (.c (.i 2))) none,
    .mk4 1 (some 29) (.mv (.t 30)) none] [0, 1, 2, 29]) (.cond (.t 29) (.exit 3) (.skip)))) (.exit 4)
def c8_2 : AC :=
  .seq (.region 0 [.mk4 0 (some 32) (.mv (.t 0)) none,
    .mk4 1 (some 33) (.mv (.t 1)) none,
    .mk4 2 (some 34) (.call 20 [(.t 32), (.t 33)]) none,
    .mk4 3 (some 31) (.mv (.t 34)) none,
    .mk4 4 (some 35) (.extract (.t 31) 0) none,
    .mk4 5 (some 36) (.mkIface 59 (.t 35)) none,
    .mk4 6 (some 37) (.extract (.t 31) 1) none,
    .mk4 7 (some 8) (.mv (.t 36)) none,
    .mk4 8 (some 9) (.mv (.t 37)) none] [1, 8, 9]) (.exit 1)
def c8_3 : AC :=
  .seq (.region 0 [.mk4 0 (some 39) (.mv (.t 0)) none,
    .mk4 1 (some 40) (.mv (.t 1)) none,
    .mk4 2 (some 41) (.mv (.t 2)) none,
    .mk4 3 (some 42) (.call 21 [(.t 39), (.t 40), (.t 41)]) none,
    .mk4 4 (some 38) (.mv (.t 42)) none,
    .mk4 5 (some 43) (.extract (.t 38) 0) none,
    .mk4 6 (some 44) (.mkIface 62 (.t 43)) none,
    .mk4 7 (some 45) (.extract (.t 38) 1) none,
    .mk4 8 (some 8) (.mv (.t 44)) none,
    .mk4 9 (some 9) (.mv (.t 45)) none] [1, 8, 9]) (.exit 1)
def c8_4 : AC :=
  .seq (.seq (.region 0 [.mk4 0 (some 46) (.mv (.t 9)) none,
    .mk4 1 (some 47) (.bin .neq (.t 46) (.c (.i 0))) none] [1, 8, 9, 47]) (.cond (.t 47) (.seq (.region 0 [.mk4 0 (some 48) (.mv (.t 9)) none,
    .mk4 1 (some 6) (.mv (.c (.ptr none))) none,
    .mk4 2 (some 7) (.mv (.t 48)) none] [6, 7]) (.ret)) (.skip))) (c8_0)
def c8_5 : AC :=
  .region 0 [.mk4 0 (some 20) (.mv (.t 2)) none,
    .mk4 1 (some 21) (.bin .lss (.t 20) (.c (.i 1))) none,
    .mk4 2 (some 22) (.mv (.t 21)) none,
    .mk4 3 (some 23) (.mv (.t 2)) (some (22, false)),
    .mk4 4 (some 24) (.bin .gtr (.t 23) (.c (.i 256))) (some (22, false)),
    .mk4 5 (some 25) (.pick (.t 22) (.c (.bool true)) (.t 24)) none,
    .mk4 6 (some 13) (.mv (.t 25)) none] [0, 1, 2, 13]
def c8_6 : AC :=
  .seq (.seq (.region 0 [.mk4 0 (some 14) (.mv (.t 1)) none,
    .mk4 1 (some 15) (.bin .lss (.t 14) (.c (.i 1))) none,
    .mk4 2 (some 16) (.mv (.t 15)) none,
    .mk4 3 (some 17) (.mv (.t 1)) (some (16, false)),
    .mk4 4 (some 18) (.bin .gtr (.t 17) (.c (.i 4))) (some (16, false)),
    .mk4 5 (some 19) (.pick (.t 16) (.c (.bool true)) (.t 18)) none,
    .mk4 6 (some 13) (.mv (.t 19)) none] [0, 1, 2, 13]) (.cond (.t 13) (.skip) (c8_5))) (.cond (.t 13) (.seq (.region 0 [.mk4 0 (some 6) (.mv (.c (.ptr none))) none,
    .mk4 1 (some 7) (.mv (.c (.i 2))) none] [6, 7]) (.ret)) (.skip))
def c8_7 : AC :=
  .seq (.region 0 [.mk4 0 (some 11) (.mv (.t 0)) none,
    .mk4 1 (some 12) (.eq .ptr false (.t 11) (.c (.ptr none))) none,
    .mk4 2 (some 10) (.mv (.t 12)) none] [0, 1, 2, 10]) (.cond (.t 10) (.seq (.region 0 [.mk4 0 (some 6) (.mv (.c (.ptr none))) none,
    .mk4 1 (some 7) (.mv (.c (.i 1))) none] [6, 7]) (.ret)) (c8_6))
def c8_8 : AC :=
  .seq (.region 0 [.mk4 0 (some 8) (.mv (.c (.nili))) none] [0, 1, 2]) (.seq (.region 0 [.mk4 0 (some 9) (.mv (.c (.i 0))) none] [0, 1, 2]) (.seq (.seq (.region 0 [.mk4 0 (some 26) (.mv (.t 1)) none] [0, 1, 2, 26]) (.block 1 (.seq (.block 4 (.seq (.block 3 (.block 2 (c8_1))) (c8_2))) (c8_3)))) (c8_4)))
def c8 : AFn := ⟨3, 53, [.tmp 6, .tmp 7],
  (.seq (.region 0 [.mk4 0 (some 6) (.mv (.c (.ptr none))) none,
    .mk4 1 (some 7) (.mv (.c (.i 0))) none] [0, 1, 2]) (.seq (.block 0 (c8_7)) (c8_8)))⟩
def c9_0 : AC :=
  .seq (.region 0 [.mk4 0 (some 9) (.mv (.t 0)) none,
    .mk4 1 (some 10) (.nilck (.t 9)) none,
    .mk4 2 (some 11) (.faddr 0 (.t 10)) none,
    .mk4 3 (some 12) (.load1 (.t 11)) none,
    .mk4 4 (some 13) (.mv (.t 1)) none,
    .mk4 5 (some 14) (.mv (.t 2)) none,
    .mk4 6 (some 15) (.invoke [(28, 9), (59, 79), (62, 144)] (.t 12) [(.t 13), (.t 14)]) none,
    .mk4 7 (some 6) (.mv (.t 15)) none] [6]) (.ret)
def c9 : AFn := ⟨3, 16, [.tmp 6],
  (.seq (.region 0 [.mk4 0 (some 6) (.mv (.c (.i 0))) none] [0, 1, 2]) (.seq (.seq (.region 0 [.mk4 0 (some 7) (.mv (.t 0)) none,
    .mk4 1 (some 8) (.call 22 [(.t 7)]) none] [0, 1, 2, 8]) (.cond (.t 8) (.seq (.region 0 [.mk4 0 (some 6) (.mv (.c (.i 1))) none] [6]) (.ret)) (.skip))) (c9_0)))⟩
def c10 : AFn := ⟨1, 6, [.tmp 2],
  (.seq (.region 0 [.mk4 0 (some 2) (.mv (.c (.i 0))) none] [0]) (.seq (.region 0 [.mk4 0 (some 3) (.mv (.t 0)) none,
    .mk4 1 (some 4) (.call 13 [(.t 3)]) none,
    .mk4 2 (some 5) (.call 23 [(.t 4)]) none,
    .mk4 3 (some 2) (.mv (.t 5)) none] [2]) (.ret)))⟩
def c11_0 : AC :=
  .seq (.region 0 [.mk4 0 (some 24) (.mv (.t 0)) none,
    .mk4 1 (some 25) (.mv (.t 12)) none,
    .mk4 2 (some 26) (.mv (.t 4)) none,
    .mk4 3 (some 27) (.call 8 [(.t 24), (.t 25), (.t 26)]) none,
    .mk4 4 (some 28) (.extract (.t 27) 0) none,
    .mk4 5 (some 29) (.extract (.t 27) 1) none,
    .mk4 6 (some 10) (.mv (.t 28)) none,
    .mk4 7 (some 11) (.mv (.t 29)) none] [10, 11]) (.ret)
def c11_1 : AC :=
  .seq (.seq (.region 0 [.mk4 0 (some 21) (.mv (.t 13)) none,
    .mk4 1 (some 22) (.bin .neq (.t 21) (.c (.i 0))) none] [0, 4, 12, 13, 22]) (.cond (.t 22) (.seq (.region 0 [.mk4 0 (some 23) (.mv (.t 13)) none,
    .mk4 1 (some 10) (.mv (.c (.ptr none))) none,
    .mk4 2 (some 11) (.mv (.t 23)) none] [10, 11]) (.ret)) (.skip))) (c11_0)
def c11_2 : AC :=
  .seq (.region 0 [.mk4 0 (some 15) (.mv (.t 1)) none,
    .mk4 1 (some 16) (.mv (.t 2)) none,
    .mk4 2 (some 17) (.mv (.t 3)) none,
    .mk4 3 (some 18) (.call 24 [(.t 15), (.t 16), (.t 17)]) none,
    .mk4 4 (some 14) (.mv (.t 18)) none,
    .mk4 5 (some 19) (.extract (.t 14) 0) none,
    .mk4 6 (some 20) (.extract (.t 14) 1) none,
    .mk4 7 (some 12) (.mv (.t 19)) none,
    .mk4 8 (some 13) (.mv (.t 20)) none] [0, 4, 12, 13]) (c11_1)
def c11 : AFn := ⟨5, 30, [.tmp 10, .tmp 11],
  (.seq (.region 0 [.mk4 0 (some 10) (.mv (.c (.ptr none))) none,
    .mk4 1 (some 11) (.mv (.c (.i 0))) none] [0, 1, 2, 3, 4]) (c11_2))⟩
def c12_0 : AC :=
  .seq (.region 0 [.mk4 0 (some 14) (.mv (.t 0)) none,
    .mk4 1 (some 15) (.nilck (.t 14)) none,
    .mk4 2 (some 16) (.faddr 0 (.t 15)) none,
    .mk4 3 (some 17) (.load1 (.t 16)) none,
    .mk4 4 (some 18) (.mv (.t 1)) none,
    .mk4 5 (some 19) (.mv (.t 2)) none,
    .mk4 6 (some 20) (.mv (.t 3)) none,
    .mk4 7 (some 21) (.invoke [(28, 12), (59, 76), (62, 141)] (.t 17) [(.t 18), (.t 19), (.t 20)]) none,
    .mk4 8 (some 22) (.extract (.t 21) 0) none,
    .mk4 9 (some 23) (.extract (.t 21) 1) none,
    .mk4 10 (some 24) (.extract (.t 21) 2) none,
    .mk4 11 (some 25) (.extract (.t 21) 3) none,
    .mk4 12 (some 8) (.mv (.t 22)) none,
    .mk4 13 (some 9) (.mv (.t 23)) none,
    .mk4 14 (some 10) (.mv (.t 24)) none,
    .mk4 15 (some 11) (.mv (.t 25)) none] [8, 9, 10, 11]) (.ret)
def c12_1 : AC :=
  .seq (.seq (.region 0 [.mk4 0 (some 12) (.mv (.t 0)) none,
    .mk4 1 (some 13) (.call 22 [(.t 12)]) none] [0, 1, 2, 3, 13]) (.cond (.t 13) (.seq (.region 0 [.mk4 0 (some 8) (.mv (.c (.nils))) none,
    .mk4 1 (some 9) (.mv (.c (.nils))) none,
    .mk4 2 (some 10) (.mv (.c (.i 0))) none,
    .mk4 3 (some 11) (.mv (.c (.i 1))) none] [8, 9, 10, 11]) (.ret)) (.skip))) (c12_0)
def c12 : AFn := ⟨4, 26, [.tmp 8, .tmp 9, .tmp 10, .tmp 11],
  (.seq (.region 0 [.mk4 0 (some 8) (.mv (.c (.nils))) none,
    .mk4 1 (some 9) (.mv (.c (.nils))) none,
    .mk4 2 (some 10) (.mv (.c (.i 0))) none,
    .mk4 3 (some 11) (.mv (.c (.i 0))) none] [0, 1, 2, 3]) (c12_1))⟩
def c13_0 : AC :=
  .seq (.seq (.region 0 [.mk4 0 (some 3) (.mv (.t 0)) none,
    .mk4 1 (some 4) (.call 22 [(.t 3)]) none] [0, 4]) (.cond (.t 4) (.seq (.region 0 [.mk4 0 (some 2) (.mv (.c (.i 0))) none] [2]) (.ret)) (.skip))) (.seq (.region 0 [.mk4 0 (some 5) (.mv (.t 0)) none,
    .mk4 1 (some 6) (.nilck (.t 5)) none,
    .mk4 2 (some 7) (.faddr 1 (.t 6)) none,
    .mk4 3 (some 8) (.load1 (.t 7)) none,
    .mk4 4 (some 2) (.mv (.t 8)) none] [2]) (.ret))
def c13 : AFn := ⟨1, 9, [.tmp 2],
  (.seq (.region 0 [.mk4 0 (some 2) (.mv (.c (.i 0))) none] [0]) (c13_0))⟩
def c14_0 : AC :=
  .seq (.region 0 [.mk4 0 (some 7) (.mv (.t 0)) none,
    .mk4 1 (some 8) (.nilck (.t 7)) none,
    .mk4 2 (some 9) (.faddr 0 (.t 8)) none,
    .mk4 3 (some 10) (.load1 (.t 9)) none,
    .mk4 4 (some 11) (.mv (.t 1)) none,
    .mk4 5 (some 12) (.invoke [(23, 54), (28, 14), (59, 78), (62, 143)] (.t 10) [(.t 11)]) none,
    .mk4 6 (some 4) (.mv (.t 12)) none] [4]) (.ret)
def c14 : AFn := ⟨2, 13, [.tmp 4],
  (.seq (.region 0 [.mk4 0 (some 4) (.mv (.c (.i 0))) none] [0, 1]) (.seq (.seq (.region 0 [.mk4 0 (some 5) (.mv (.t 0)) none,
    .mk4 1 (some 6) (.call 22 [(.t 5)]) none] [0, 1, 6]) (.cond (.t 6) (.seq (.region 0 [.mk4 0 (some 4) (.mv (.c (.i 1))) none] [4]) (.ret)) (.skip))) (c14_0)))⟩
def c15_0 : AC :=
  .seq (.region 0 [.mk4 0 (some 7) (.mv (.t 0)) none,
    .mk4 1 (some 8) (.nilck (.t 7)) none,
    .mk4 2 (some 9) (.faddr 0 (.t 8)) none,
    .mk4 3 (some 10) (.load1 (.t 9)) none,
    .mk4 4 (some 11) (.mv (.t 1)) none,
    .mk4 5 (some 12) (.invoke [(28, 15), (59, 80), (62, 145), (89, 150)] (.t 10) [(.t 11)]) none,
    .mk4 6 (some 4) (.mv (.t 12)) none] [4]) (.ret)
def c15 : AFn := ⟨2, 13, [.tmp 4],
  (.seq (.region 0 [.mk4 0 (some 4) (.mv (.c (.i 0))) none] [0, 1]) (.seq (.seq (.region 0 [.mk4 0 (some 5) (.mv (.t 0)) none,
    .mk4 1 (some 6) (.call 22 [(.t 5)]) none] [0, 1, 6]) (.cond (.t 6) (.seq (.region 0 [.mk4 0 (some 4) (.mv (.c (.i 0))) none] [4]) (.ret)) (.skip))) (c15_0)))⟩
def c16_0 : AC :=
  .seq (.region 0 [.mk4 0 (some 26) (.mv (.t 8)) none,
    .mk4 1 (some 27) (.ixaS 1 (.t 26) (.c (.i 0))) none,
    .mk4 2 (some 28) (.load1 (.t 27)) none,
    .mk4 3 (some 29) (.mv (.t 0)) none,
    .mk4 4 (some 30) (.nilck (.t 29)) none,
    .mk4 5 (some 31) (.faddr 288 (.t 30)) none,
    .mk4 6 (some 32) (.load1 (.t 31)) none,
    .mk4 7 (some 33) (.lenL (.t 32)) none,
    .mk4 8 (some 34) (.bin .sub (.t 33) (.c (.i 1))) none,
    .mk4 9 (some 4) (.mv (.t 28)) none,
    .mk4 10 (some 5) (.mv (.t 34)) none,
    .mk4 11 (some 6) (.mv (.c (.i 0))) none] [4, 5, 6]) (.ret)
def c16_1 : AC :=
  .seq (.seq (.region 0 [.mk4 0 (some 23) (.mv (.t 6)) none,
    .mk4 1 (some 24) (.bin .neq (.t 23) (.c (.i 0))) none] [0, 6, 8, 24]) (.cond (.t 24) (.seq (.region 0 [.mk4 0 (some 25) (.mv (.t 6)) none,
    .mk4 1 (some 4) (.mv (.c (.i 0))) none,
    .mk4 2 (some 5) (.mv (.c (.i 0))) none,
    .mk4 3 (some 6) (.mv (.t 25)) none] [4, 5, 6]) (.ret)) (.skip))) (c16_0)
def c16_2 : AC :=
  .seq (.region 0 [.mk4 0 (some 17) (.mv (.t 0)) none,
    .mk4 1 (some 18) (.mv (.t 1)) none,
    .mk4 2 (some 19) (.mv (.t 7)) none,
    .mk4 3 (some 20) (.call 18 [(.t 17), (.t 18), (.c (.i 1)), (.t 19)]) none,
    .mk4 4 (some 16) (.mv (.t 20)) none,
    .mk4 5 (some 21) (.extract (.t 16) 0) none,
    .mk4 6 (some 22) (.extract (.t 16) 1) none,
    .mk4 7 (some 8) (.mv (.t 21)) none,
    .mk4 8 (some 6) (.mv (.t 22)) none] [0, 6, 8]) (c16_1)
def c16_3 : AC :=
  .seq (.region 0 [.mk4 0 (some 11) (.mv (.t 7)) none,
    .mk4 1 (some 12) (.nilck (.t 11)) none,
    .mk4 2 (some 13) (.faddr 0 (.t 12)) none,
    .mk4 3 (some 14) (.ixaA 2 7 (.t 13) (.c (.i 1))) none,
    .mk4 4 (some 15) (.faddr 0 (.t 14)) none,
    .mk4 5 none (.store 1 (.t 15) (.c (.i 2))) none] [0, 1, 7]) (c16_2)
def c16_4 : AC :=
  .seq (.region 0 [.mk4 0 (some 4) (.mv (.c (.i 0))) none,
    .mk4 1 (some 5) (.mv (.c (.i 0))) none,
    .mk4 2 (some 6) (.mv (.c (.i 0))) none] [0, 1]) (.seq (.region 0 [.mk4 0 (some 9) (.mv (.t 1)) none,
    .mk4 1 (some 10) (.call 19 [(.t 9)]) none,
    .mk4 2 (some 7) (.mv (.t 10)) none] [0, 1, 7]) (c16_3))
def c16 : AFn := ⟨2, 35, [.tmp 4, .tmp 5, .tmp 6],
  (c16_4)⟩
def c17 : AFn := ⟨0, 3, [.tmp 0],
  (.seq (.region 0 [.mk4 0 (some 0) (.mv (.c (.ptr none))) none] []) (.seq (.region 0 [.mk4 0 (some 1) (.build (List.replicate 32 (.bool false : V) ++ List.replicate 32 (.i 0 : V)) []) none,
    .mk4 1 (some 2) (.box 64 (.t 1)) none,
    .mk4 2 (some 0) (.mv (.t 2)) none] [0]) (.ret)))⟩
def c18_0 : AC :=
  .seq (.region 0 [.mk4 0 (some 27) (.mv (.t 0)) none,
    .mk4 1 (some 28) (.mv (.t 3)) none,
    .mk4 2 (some 29) (.mv (.t 10)) none,
    .mk4 3 (some 30) (.call 28 [(.t 27), (.t 28), (.t 29)]) none] [10]) (.seq (.region 0 [.mk4 0 (some 31) (.mv (.t 10)) none,
    .mk4 1 (some 8) (.mv (.t 31)) none,
    .mk4 2 (some 9) (.mv (.c (.i 0))) none] [8, 9]) (.ret))
def c18_1 : AC :=
  .seq (.region 0 [.mk4 0 (some 16) (.mv (.t 1)) none,
    .mk4 1 (some 17) (.call 26 [(.t 16)]) none,
    .mk4 2 (some 18) (.un .not (.t 17)) none,
    .mk4 3 (some 15) (.mv (.t 18)) none] [0, 2, 3, 15]) (.cond (.t 15) (.seq (.region 0 [.mk4 0 (some 8) (.mv (.c (.nils))) none,
    .mk4 1 (some 9) (.mv (.c (.i 2))) none] [8, 9]) (.ret)) (.skip))
def c18_2 : AC :=
  .seq (.region 0 [.mk4 0 (some 13) (.mv (.t 0)) none,
    .mk4 1 (some 14) (.call 25 [(.t 13)]) none,
    .mk4 2 (some 12) (.mv (.t 14)) none] [0, 1, 2, 3, 12]) (.cond (.t 12) (.seq (.region 0 [.mk4 0 (some 8) (.mv (.c (.nils))) none,
    .mk4 1 (some 9) (.mv (.c (.i 1))) none] [8, 9]) (.ret)) (c18_1))
def c18_3 : AC :=
  .seq (.region 0 [.mk4 0 (some 20) (.mv (.t 0)) none,
    .mk4 1 (some 21) (.mv (.t 2)) none,
    .mk4 2 (some 22) (.call 27 [(.t 20), (.t 21)]) none,
    .mk4 3 (some 19) (.mv (.t 22)) none,
    .mk4 4 (some 23) (.extract (.t 19) 0) none,
    .mk4 5 (some 24) (.extract (.t 19) 1) none,
    .mk4 6 (some 10) (.mv (.t 23)) none,
    .mk4 7 (some 11) (.mv (.t 24)) none] [0, 3, 10, 11]) (.seq (.seq (.region 0 [.mk4 0 (some 25) (.mv (.t 11)) none,
    .mk4 1 (some 26) (.un .not (.t 25)) none] [0, 3, 10, 26]) (.cond (.t 26) (.seq (.region 0 [.mk4 0 (some 8) (.mv (.c (.nils))) none,
    .mk4 1 (some 9) (.mv (.c (.i 112))) none] [8, 9]) (.ret)) (.skip))) (c18_0))
def c18 : AFn := ⟨4, 32, [.tmp 8, .tmp 9],
  (.seq (.region 0 [.mk4 0 (some 8) (.mv (.c (.nils))) none,
    .mk4 1 (some 9) (.mv (.c (.i 0))) none] [0, 1, 2, 3]) (.seq (.block 0 (c18_2)) (c18_3)))⟩
def c19_0 : AC :=
  .region 0 [.mk4 0 (some 21) (.mv (.t 3)) none,
    .mk4 1 (some 22) (.mv (.t 4)) none,
    .mk4 2 (some 23) (.nilck (.t 21)) none,
    .mk4 3 (some 24) (.faddr 0 (.t 23)) none,
    .mk4 4 (some 25) (.ixaA 2 7 (.t 24) (.t 22)) none,
    .mk4 5 (some 26) (.faddr 3 (.t 25)) none,
    .mk4 6 none (.store 1 (.t 26) (.c (.bool true))) none] [0, 3, 7]
def c19_1 : AC :=
  .seq (.region 0 [.mk4 0 (some 11) (.mv (.t 3)) none,
    .mk4 1 (some 12) (.mv (.t 4)) none,
    .mk4 2 (some 13) (.mv (.t 0)) none,
    .mk4 7 (some 17) (.nilck (.t 11)) none,
    .mk4 8 (some 18) (.faddr 0 (.t 17)) none,
    .mk4 3 (some 14) (.call 29 [(.t 13)]) none,
    .mk4 4 (some 10) (.mv (.t 14)) none,
    .mk4 5 (some 15) (.extract (.t 10) 0) none,
    .mk4 6 (some 16) (.extract (.t 10) 1) none,
    .mk4 9 (some 19) (.ixaA 2 7 (.t 18) (.t 12)) none,
    .mk4 10 (some 20) (.faddr 2 (.t 19)) none,
    .mk4 11 none (.store 1 (.t 20) (.t 15)) none] [0, 3, 4, 7]) (c19_0)
def c19_2 : AC :=
  .seq (.region 0 [.mk4 0 (some 8) (.bin .lss (.t 7) (.c (.i 2))) none] [0, 3, 7, 8]) (.seq (.cond (.t 8) (.skip) (.exit 0)) (.seq (.block 1 (.seq (.region 0 [.mk4 0 (some 9) (.mv (.t 7)) none,
    .mk4 1 (some 4) (.mv (.t 9)) none] [0, 3, 4, 7]) (c19_1))) (.region 0 [.mk4 0 (some 27) (.bin .add (.t 7) (.c (.i 1))) none,
    .mk4 1 (some 7) (.mv (.t 27)) none] [0, 3, 7])))
def c19_3 : AC :=
  .seq (.region 0 [.mk4 0 (some 5) (.build [.i 0, .i 0, .ptr none, .bool false, .bool false, .int .u64 0, .int .u64 0, .i 0, .i 0, .ptr none, .bool false, .bool false, .int .u64 0, .int .u64 0, .bool false, .i 0, .nils] []) none,
    .mk4 1 (some 6) (.box 17 (.t 5)) none,
    .mk4 2 (some 3) (.mv (.t 6)) none] [0, 3]) (.seq (.seq (.region 0 [.mk4 0 (some 7) (.mv (.c (.i 0))) none] [0, 3, 7]) (.block 0 (.loop [0, 3, 7] (c19_2)))) (.seq (.region 0 [.mk4 0 (some 28) (.mv (.t 3)) none,
    .mk4 1 (some 2) (.mv (.t 28)) none] [2]) (.ret)))
def c19 : AFn := ⟨1, 29, [.tmp 2],
  (.seq (.region 0 [.mk4 0 (some 2) (.mv (.c (.ptr none))) none] [0]) (c19_3))⟩
def c20_0 : AC :=
  .seq (.region 0 [.mk4 0 (some 10) (.mv (.t 1)) none,
    .mk4 1 (some 11) (.bin .neq (.t 10) (.c (.i 1))) none,
    .mk4 2 (some 12) (.mv (.t 11)) none,
    .mk4 3 (some 13) (.mv (.t 1)) (some (12, true)),
    .mk4 4 (some 14) (.bin .neq (.t 13) (.c (.i 2))) (some (12, true)),
    .mk4 5 (some 15) (.pick (.t 12) (.t 14) (.c (.bool false))) none,
    .mk4 6 (some 9) (.mv (.t 15)) none] [0, 1, 9]) (.cond (.t 9) (.seq (.region 0 [.mk4 0 (some 4) (.mv (.c (.ptr none))) none,
    .mk4 1 (some 5) (.mv (.c (.i 2))) none] [4, 5]) (.ret)) (.skip))
def c20_1 : AC :=
  .seq (.region 0 [.mk4 0 (some 7) (.mv (.t 0)) none,
    .mk4 1 (some 8) (.eq .ptr false (.t 7) (.c (.ptr none))) none,
    .mk4 2 (some 6) (.mv (.t 8)) none] [0, 1, 6]) (.cond (.t 6) (.seq (.region 0 [.mk4 0 (some 4) (.mv (.c (.ptr none))) none,
    .mk4 1 (some 5) (.mv (.c (.i 1))) none] [4, 5]) (.ret)) (c20_0))
def c20_2 : AC :=
  .seq (.region 0 [.mk4 0 (some 16) (.mv (.t 0)) none,
    .mk4 1 (some 17) (.mv (.t 1)) none,
    .mk4 2 (some 18) (.build ([.ptr none] ++ List.replicate 98 (.i 0 : V)) [(0, 1, (.t 16)), (1, 1, (.t 17))]) none,
    .mk4 3 (some 19) (.box 99 (.t 18)) none,
    .mk4 4 (some 4) (.mv (.t 19)) none,
    .mk4 5 (some 5) (.mv (.c (.i 0))) none] [4, 5]) (.ret)
def c20 : AFn := ⟨2, 20, [.tmp 4, .tmp 5],
  (.seq (.region 0 [.mk4 0 (some 4) (.mv (.c (.ptr none))) none,
    .mk4 1 (some 5) (.mv (.c (.i 0))) none] [0, 1]) (.seq (.block 0 (c20_1)) (c20_2)))⟩
def c21_0 : AC :=
  .seq (.region 0 [.mk4 0 (some 62) (.mv (.t 8)) none,
    .mk4 1 (some 63) (.mv (.t 11)) none,
    .mk4 2 (some 64) (.build [.ptr none] [(0, 1, (.t 63))]) none,
    .mk4 3 (some 65) (.box 1 (.t 64)) none,
    .mk4 4 (some 66) (.mkIface 104 (.t 65)) none,
    .mk4 5 (some 67) (.nilck (.t 62)) none,
    .mk4 6 (some 68) (.faddr 1 (.t 67)) none,
    .mk4 7 none (.store 1 (.t 68) (.t 66)) none] [8]) (.seq (.region 0 [.mk4 0 (some 69) (.mv (.t 8)) none,
    .mk4 1 (some 6) (.mv (.t 69)) none,
    .mk4 2 (some 7) (.mv (.c (.i 0))) none] [6, 7]) (.ret))
def c21_1 : AC :=
  .seq (.seq (.region 0 [.mk4 0 (some 59) (.mv (.t 12)) none,
    .mk4 1 (some 60) (.bin .neq (.t 59) (.c (.i 0))) none] [8, 11, 12, 60]) (.cond (.t 60) (.seq (.region 0 [.mk4 0 (some 61) (.mv (.t 12)) none,
    .mk4 1 (some 6) (.mv (.c (.ptr none))) none,
    .mk4 2 (some 7) (.mv (.t 61)) none] [6, 7]) (.ret)) (.skip))) (c21_0)
def c21_2 : AC :=
  .seq (.region 0 [.mk4 0 (some 42) (.mv (.t 8)) none,
    .mk4 1 (some 43) (.mv (.t 9)) none,
    .mk4 2 (some 44) (.mv (.t 8)) none,
    .mk4 3 (some 45) (.nilck (.t 44)) none,
    .mk4 4 (some 46) (.faddr 2 (.t 45)) none,
    .mk4 5 (some 47) (.load1 (.t 46)) none,
    .mk4 6 (some 48) (.build [.ptr none, .i 0, .ptr none] [(0, 1, (.t 43)), (1, 1, (.c (.i (-1)))), (2, 1, (.t 47))]) none,
    .mk4 7 (some 49) (.box 3 (.t 48)) none,
    .mk4 8 (some 50) (.mkIface 98 (.t 49)) none,
    .mk4 9 (some 51) (.nilck (.t 42)) none,
    .mk4 10 (some 52) (.faddr 1 (.t 51)) none,
    .mk4 11 none (.store 1 (.t 52) (.t 50)) none] [8]) (.seq (.region 0 [.mk4 0 (some 53) (.mv (.t 8)) none,
    .mk4 1 (some 6) (.mv (.t 53)) none,
    .mk4 2 (some 7) (.mv (.c (.i 0))) none] [6, 7]) (.ret))
def c21_3 : AC :=
  .seq (.seq (.region 0 [.mk4 0 (some 39) (.mv (.t 10)) none,
    .mk4 1 (some 40) (.bin .neq (.t 39) (.c (.i 0))) none] [8, 9, 10, 40]) (.cond (.t 40) (.seq (.region 0 [.mk4 0 (some 41) (.mv (.t 10)) none,
    .mk4 1 (some 6) (.mv (.c (.ptr none))) none,
    .mk4 2 (some 7) (.mv (.t 41)) none] [6, 7]) (.ret)) (.skip))) (c21_2)
def c21_4 : AC :=
  .seq (.region 0 [.mk4 0 (some 35) (.mv (.t 0)) none,
    .mk4 1 (some 36) (.call 31 [(.t 35), (.c (.i 96))]) none,
    .mk4 2 (some 34) (.mv (.t 36)) none,
    .mk4 3 (some 37) (.extract (.t 34) 0) none,
    .mk4 4 (some 38) (.extract (.t 34) 1) none,
    .mk4 5 (some 9) (.mv (.t 37)) none,
    .mk4 6 (some 10) (.mv (.t 38)) none] [8, 9, 10]) (c21_3)
def c21_5 : AC :=
  .seq (.region 0 [.mk4 0 (some 55) (.mv (.t 0)) none,
    .mk4 1 (some 56) (.call 32 [(.t 55)]) none,
    .mk4 2 (some 54) (.mv (.t 56)) none,
    .mk4 3 (some 57) (.extract (.t 54) 0) none,
    .mk4 4 (some 58) (.extract (.t 54) 1) none,
    .mk4 5 (some 11) (.mv (.t 57)) none,
    .mk4 6 (some 12) (.mv (.t 58)) none] [8, 11, 12]) (c21_1)
def c21_6 : AC :=
  .seq (.region 0 [.mk4 0 (some 23) (.mv (.t 2)) none,
    .mk4 1 (some 24) (.bin .lss (.t 23) (.c (.i 1))) none,
    .mk4 2 (some 16) (.mv (.t 24)) none] [0, 1, 2, 16]) (.cond (.t 16) (.skip) (.region 0 [.mk4 0 (some 25) (.mv (.t 2)) none,
    .mk4 1 (some 26) (.bin .gtr (.t 25) (.c (.i 256))) none,
    .mk4 2 (some 16) (.mv (.t 26)) none] [0, 1, 2, 16]))
def c21_7 : AC :=
  .seq (.seq (.region 0 [.mk4 0 (some 17) (.mv (.t 1)) none,
    .mk4 1 (some 18) (.bin .neq (.t 17) (.c (.i 3))) none,
    .mk4 2 (some 19) (.mv (.t 18)) none,
    .mk4 3 (some 20) (.mv (.t 1)) (some (19, true)),
    .mk4 4 (some 21) (.bin .neq (.t 20) (.c (.i 4))) (some (19, true)),
    .mk4 5 (some 22) (.pick (.t 19) (.t 21) (.c (.bool false))) none,
    .mk4 6 (some 16) (.mv (.t 22)) none] [0, 1, 2, 16]) (.cond (.t 16) (.skip) (c21_6))) (.cond (.t 16) (.seq (.region 0 [.mk4 0 (some 6) (.mv (.c (.ptr none))) none,
    .mk4 1 (some 7) (.mv (.c (.i 2))) none] [6, 7]) (.ret)) (.skip))
def c21_8 : AC :=
  .seq (.region 0 [.mk4 0 (some 14) (.mv (.t 0)) none,
    .mk4 1 (some 15) (.eq .ptr false (.t 14) (.c (.ptr none))) none,
    .mk4 2 (some 13) (.mv (.t 15)) none] [0, 1, 2, 13]) (.cond (.t 13) (.seq (.region 0 [.mk4 0 (some 6) (.mv (.c (.ptr none))) none,
    .mk4 1 (some 7) (.mv (.c (.i 1))) none] [6, 7]) (.ret)) (c21_7))
def c21_9 : AC :=
  .seq (.region 0 [.mk4 0 (some 27) (.mv (.t 0)) none,
    .mk4 1 (some 28) (.call 30 []) none,
    .mk4 2 (some 29) (.mv (.t 2)) none,
    .mk4 3 (some 30) (.build [.ptr none, .nili, .ptr none, .i 0, .i 0, .i 0] [(0, 1, (.t 27)), (2, 1, (.t 28)), (3, 1, (.t 29)), (4, 1, (.c (.i (-1)))), (5, 1, (.c (.i (-1))))]) none,
    .mk4 4 (some 31) (.box 6 (.t 30)) none,
    .mk4 5 (some 8) (.mv (.t 31)) none] [0, 1, 8]) (.seq (.seq (.region 0 [.mk4 0 (some 32) (.mv (.t 1)) none,
    .mk4 1 (some 33) (.bin .eql (.t 32) (.c (.i 3))) none] [0, 8, 33]) (.cond (.t 33) (c21_4) (.skip))) (c21_5))
def c21 : AFn := ⟨3, 70, [.tmp 6, .tmp 7],
  (.seq (.region 0 [.mk4 0 (some 6) (.mv (.c (.ptr none))) none,
    .mk4 1 (some 7) (.mv (.c (.i 0))) none] [0, 1, 2]) (.seq (.block 0 (c21_8)) (c21_9)))⟩
def c22_0 : AC :=
  .seq (.region 0 [.mk4 0 (some 3) (.mv (.t 0)) none,
    .mk4 1 (some 4) (.eq .ptr false (.t 3) (.c (.ptr none))) none,
    .mk4 2 (some 5) (.mv (.t 4)) none,
    .mk4 3 (some 6) (.mv (.t 0)) (some (5, false)),
    .mk4 4 (some 7) (.nilck (.t 6)) (some (5, false)),
    .mk4 5 (some 8) (.faddr 1 (.t 7)) (some (5, false)),
    .mk4 6 (some 9) (.load1 (.t 8)) (some (5, false)),
    .mk4 7 (some 10) (.bin .eql (.t 9) (.c (.i 0))) (some (5, false)),
    .mk4 8 (some 11) (.pick (.t 5) (.c (.bool true)) (.t 10)) none,
    .mk4 9 (some 2) (.mv (.t 11)) none] [2]) (.ret)
def c22 : AFn := ⟨1, 12, [.tmp 2],
  (.seq (.region 0 [.mk4 0 (some 2) (.mv (.c (.bool false))) none] [0]) (c22_0))⟩
def c23_0 : AC :=
  .seq (.seq (.region 0 [.mk4 0 (some 3) (.mv (.t 0)) none,
    .mk4 1 (some 4) (.call 33 [(.t 3)]) none,
    .mk4 2 (some 5) (.un .not (.t 4)) none] [0, 5]) (.cond (.t 5) (.seq (.region 0 [.mk4 0 (some 2) (.mv (.c (.i 0))) none] [2]) (.ret)) (.skip))) (.seq (.region 0 [.mk4 0 (some 6) (.mv (.t 0)) none,
    .mk4 1 (some 7) (.bin .sub (.t 6) (.c (.i 1))) none,
    .mk4 2 (some 8) (.ixaA 4 1 (.c (.p 0 0)) (.t 7)) none,
    .mk4 3 (some 9) (.load1 (.t 8)) none,
    .mk4 4 (some 2) (.mv (.t 9)) none] [2]) (.ret))
def c23 : AFn := ⟨1, 10, [.tmp 2],
  (.seq (.region 0 [.mk4 0 (some 2) (.mv (.c (.i 0))) none] [0]) (c23_0))⟩
def c24_0 : AC :=
  .seq (.region 0 [.mk4 0 (some 30) (.mv (.t 10)) none,
    .mk4 1 (some 31) (.mv (.t 0)) none,
    .mk4 2 (some 32) (.bin .and (.t 30) (.t 31)) none,
    .mk4 3 (some 33) (.mv (.t 0)) none,
    .mk4 4 (some 34) (.bin .eql (.t 32) (.t 33)) none,
    .mk4 5 (some 35) (.mv (.t 34)) none,
    .mk4 6 (some 36) (.mv (.t 10)) (some (35, true)),
    .mk4 7 (some 37) (.mv (.t 1)) (some (35, true)),
    .mk4 8 (some 38) (.bin .and (.t 36) (.t 37)) (some (35, true)),
    .mk4 9 (some 39) (.bin .eql (.t 38) (.c (.i 0))) (some (35, true)),
    .mk4 10 (some 40) (.pick (.t 35) (.t 39) (.c (.bool false))) none,
    .mk4 11 (some 41) (.mv (.t 40)) none,
    .mk4 12 (some 42) (.mv (.t 2)) (some (41, true)),
    .mk4 13 (some 43) (.mv (.t 9)) (some (41, true)),
    .mk4 14 (some 44) (.call 35 [(.t 42), (.t 43)]) (some (41, true)),
    .mk4 15 (some 45) (.un .not (.t 44)) (some (41, true)),
    .mk4 16 (some 46) (.pick (.t 41) (.t 45) (.c (.bool false))) none] [0, 1, 2, 9, 46]) (.cond (.t 46) (.seq (.region 0 [.mk4 0 (some 47) (.mv (.t 9)) none,
    .mk4 1 (some 6) (.mv (.t 47)) none,
    .mk4 2 (some 7) (.mv (.c (.i 0))) none] [6, 7]) (.ret)) (.skip))
def c24_1 : AC :=
  .seq (.block 1 (.seq (.region 0 [.mk4 0 (some 28) (.mv (.t 9)) none,
    .mk4 1 (some 29) (.call 23 [(.t 28)]) none,
    .mk4 2 (some 10) (.mv (.t 29)) none] [0, 1, 2, 9, 10]) (c24_0))) (.region 0 [.mk4 0 (some 26) (.mv (.t 9)) none,
    .mk4 1 (some 27) (.bin .sub (.t 26) (.c (.i 1))) none,
    .mk4 2 (some 9) (.mv (.t 27)) none] [0, 1, 2, 9])
def c24_2 : AC :=
  .seq (.region 0 [.mk4 0 (some 14) (.mv (.t 0)) none,
    .mk4 1 (some 15) (.mv (.t 8)) none,
    .mk4 2 (some 16) (.bin .andNot (.t 14) (.t 15)) none,
    .mk4 3 (some 17) (.bin .neq (.t 16) (.c (.i 0))) none,
    .mk4 4 (some 18) (.mv (.t 17)) none,
    .mk4 5 (some 19) (.mv (.t 1)) (some (18, false)),
    .mk4 6 (some 20) (.mv (.t 8)) (some (18, false)),
    .mk4 7 (some 21) (.bin .andNot (.t 19) (.t 20)) (some (18, false)),
    .mk4 8 (some 22) (.bin .neq (.t 21) (.c (.i 0))) (some (18, false)),
    .mk4 9 (some 23) (.pick (.t 18) (.c (.bool true)) (.t 22)) none] [0, 1, 2, 23]) (.cond (.t 23) (.seq (.region 0 [.mk4 0 (some 6) (.mv (.c (.i 0))) none,
    .mk4 1 (some 7) (.mv (.c (.i 50))) none] [6, 7]) (.ret)) (.skip))
def c24_3 : AC :=
  .seq (.seq (.region 0 [.mk4 0 (some 9) (.mv (.c (.i 4))) none] [0, 1, 2, 9]) (.block 0 (.loop [0, 1, 2, 9] (.seq (.seq (.region 0 [.mk4 0 (some 24) (.mv (.t 9)) none,
    .mk4 1 (some 25) (.bin .geq (.t 24) (.c (.i 1))) none] [0, 1, 2, 9, 25]) (.cond (.t 25) (.skip) (.exit 0))) (c24_1))))) (.seq (.region 0 [.mk4 0 (some 6) (.mv (.c (.i 0))) none,
    .mk4 1 (some 7) (.mv (.c (.i 51))) none] [6, 7]) (.ret))
def c24_4 : AC :=
  .seq (.region 0 [.mk4 0 (some 6) (.mv (.c (.i 0))) none,
    .mk4 1 (some 7) (.mv (.c (.i 0))) none] [0, 1, 2]) (.seq (.seq (.region 0 [.mk4 0 (some 11) (.call 34 [(.c (.i 1))]) none,
    .mk4 1 (some 12) (.bin .shl (.c (.i 1)) (.t 11)) none,
    .mk4 2 (some 13) (.bin .sub (.t 12) (.c (.i 1))) none,
    .mk4 3 (some 8) (.mv (.t 13)) none] [0, 1, 2, 8]) (c24_2)) (c24_3))
def c24 : AFn := ⟨3, 48, [.tmp 6, .tmp 7],
  (c24_4)⟩
def c25_0 : AC :=
  .seq (.region 0 [.mk4 0 (some 3) (.mv (.t 0)) none,
    .mk4 1 (some 4) (.eq .ptr false (.t 3) (.c (.ptr none))) none,
    .mk4 2 (some 5) (.mv (.t 4)) none,
    .mk4 3 (some 6) (.mv (.t 0)) (some (5, false)),
    .mk4 4 (some 7) (.nilck (.t 6)) (some (5, false)),
    .mk4 5 (some 8) (.faddr 289 (.t 7)) (some (5, false)),
    .mk4 6 (some 9) (.load1 (.t 8)) (some (5, false)),
    .mk4 7 (some 10) (.eq .ptr false (.t 9) (.c (.ptr none))) (some (5, false)),
    .mk4 8 (some 11) (.pick (.t 5) (.c (.bool true)) (.t 10)) none,
    .mk4 9 (some 2) (.mv (.t 11)) none] [2]) (.ret)
def c25 : AFn := ⟨1, 12, [.tmp 2],
  (.seq (.region 0 [.mk4 0 (some 2) (.mv (.c (.bool false))) none] [0]) (c25_0))⟩
def c26_0 : AC :=
  .seq (.region 0 [.mk4 0 (some 3) (.mv (.t 0)) none,
    .mk4 1 (some 4) (.bin .geq (.t 3) (.c (.i 1))) none,
    .mk4 2 (some 5) (.mv (.t 4)) none,
    .mk4 3 (some 6) (.mv (.t 0)) (some (5, true)),
    .mk4 4 (some 7) (.bin .leq (.t 6) (.c (.i 65536))) (some (5, true)),
    .mk4 5 (some 8) (.pick (.t 5) (.t 7) (.c (.bool false))) none,
    .mk4 6 (some 2) (.mv (.t 8)) none] [2]) (.ret)
def c26 : AFn := ⟨1, 9, [.tmp 2],
  (.seq (.region 0 [.mk4 0 (some 2) (.mv (.c (.bool false))) none] [0]) (c26_0))⟩
def c27_0 : AC :=
  .seq (.seq (.region 0 [.mk4 0 (some 11) (.load1 (.t 6)) none,
    .mk4 1 (some 12) (.lenL (.t 11)) none,
    .mk4 2 (some 13) (.load1 (.t 3)) none,
    .mk4 3 (some 14) (.bin .eql (.t 12) (.t 13)) none] [6, 7, 14]) (.cond (.t 14) (.exit 0) (.skip))) (.region 0 [.mk4 0 (some 15) (.load1 (.t 6)) none,
    .mk4 1 (some 16) (.mv (.t 7)) none,
    .mk4 2 (some 17) (.bslice 1 1 [.i 0] [(0, (.t 16))]) none,
    .mk4 3 (some 18) (.append 1 8 (.t 15) (.t 17)) none,
    .mk4 4 none (.store 1 (.t 6) (.t 18)) none] [])
def c27_1 : AC :=
  .seq (.region 0 [.mk4 0 (some 19) (.load1 (.t 6)) none,
    .mk4 1 (some 20) (.load1 (.t 6)) none,
    .mk4 2 (some 21) (.lenL (.t 20)) none,
    .mk4 3 (some 22) (.load1 (.t 3)) none,
    .mk4 4 (some 23) (.bin .eql (.t 21) (.t 22)) none,
    .mk4 5 (some 24) (.mv (.t 23)) none,
    .mk4 6 (some 25) (.mv (.t 0)) (some (24, true)),
    .mk4 7 (some 26) (.nilck (.t 25)) (some (24, true)),
    .mk4 8 (some 27) (.faddr 288 (.t 26)) (some (24, true)),
    .mk4 9 (some 28) (.load1 (.t 27)) (some (24, true)),
    .mk4 10 (some 29) (.lenL (.t 28)) (some (24, true)),
    .mk4 11 (some 30) (.bin .lss (.t 29) (.c (.i 1000))) (some (24, true)),
    .mk4 12 (some 31) (.pick (.t 24) (.t 30) (.c (.bool false))) none,
    .mk4 13 (some 4) (.mv (.t 19)) none,
    .mk4 14 (some 5) (.mv (.t 31)) none] [4, 5]) (.ret)
def c27_2 : AC :=
  .scope (.seq (.region 0 [.mk4 0 (some 6) (.alloc 1 [.nils]) none] [0, 3, 6]) (.seq (.label 0) (.seq (.seq (.region 0 [.mk4 0 (some 8) (.mv (.t 0)) none,
    .mk4 1 (some 9) (.call 36 [(.t 8)]) none] [0, 3, 6, 9]) (.block 0 (.rangeFunc (.t 9) [10] [3, 6] (.region 0 [.mk4 0 (some 7) (.mv (.t 10)) none] [3, 6, 7]) (.block 1 (c27_0))))) (c27_1))))
def c27 : AFn := ⟨2, 32, [.tmp 4, .tmp 5],
  (.seq (.region 0 [.mk4 0 (some 3) (.box 1 (.t 1)) none,
    .mk4 1 (some 4) (.mv (.c (.nils))) none,
    .mk4 2 (some 5) (.mv (.c (.bool false))) none] [0, 3]) (c27_2))⟩
def c28_0 : AC :=
  .region 0 [.mk4 0 (some 28) (.mv (.t 0)) none,
    .mk4 1 (some 29) (.mv (.t 7)) none,
    .mk4 2 (some 30) (.mv (.t 0)) none,
    .mk4 3 (some 31) (.nilck (.t 30)) none,
    .mk4 4 (some 32) (.faddr 288 (.t 31)) none,
    .mk4 5 (some 33) (.load1 (.t 32)) none,
    .mk4 6 (some 34) (.lenL (.t 33)) none,
    .mk4 7 (some 35) (.mv (.t 6)) none,
    .mk4 8 (some 36) (.build [.bool false, .i 0, .i 0] [(0, 1, (.c (.bool true))), (1, 1, (.t 34)), (2, 1, (.t 35))]) none,
    .mk4 9 (some 37) (.nilck (.t 28)) none,
    .mk4 10 (some 38) (.faddr 0 (.t 37)) none,
    .mk4 11 (some 39) (.ixaA 96 3 (.t 38) (.t 29)) none,
    .mk4 12 none (.store 3 (.t 39) (.t 36)) none] [0, 1, 8, 9, 10]
def c28_1 : AC :=
  .seq (.region 0 [.mk4 0 (some 15) (.mv (.t 1)) none,
    .mk4 1 (some 16) (.mv (.t 6)) none,
    .mk4 2 (some 17) (.mv (.t 1)) none,
    .mk4 3 (some 18) (.mv (.t 6)) none,
    .mk4 4 (some 19) (.mv (.t 7)) none,
    .mk4 5 (some 20) (.nilck (.t 15)) none,
    .mk4 6 (some 21) (.faddr 0 (.t 20)) none,
    .mk4 7 (some 22) (.ixaA 2 7 (.t 21) (.t 16)) none,
    .mk4 8 (some 23) (.faddr 0 (.t 22)) none,
    .mk4 10 (some 24) (.nilck (.t 17)) none,
    .mk4 11 (some 25) (.faddr 0 (.t 24)) none,
    .mk4 9 none (.store 1 (.t 23) (.c (.i 1))) none,
    .mk4 12 (some 26) (.ixaA 2 7 (.t 25) (.t 18)) none,
    .mk4 13 (some 27) (.faddr 1 (.t 26)) none,
    .mk4 14 none (.store 1 (.t 27) (.t 19)) none] [0, 1, 6, 7, 8, 9, 10]) (c28_0)
def c28_2 : AC :=
  .seq (.block 1 (.seq (.region 0 [.mk4 0 (some 12) (.mv (.t 10)) none,
    .mk4 1 (some 13) (.ixaS 1 (.t 8) (.t 10)) none,
    .mk4 2 (some 14) (.load1 (.t 13)) none,
    .mk4 3 (some 6) (.mv (.t 12)) none,
    .mk4 4 (some 7) (.mv (.t 14)) none] [0, 1, 6, 7, 8, 9, 10]) (c28_1))) (.region 0 [.mk4 0 (some 40) (.bin .add (.t 10) (.c (.i 1))) none,
    .mk4 1 (some 10) (.mv (.t 40)) none] [0, 1, 8, 9, 10])
def c28_3 : AC :=
  .region 0 [.mk4 0 (some 41) (.mv (.t 0)) none,
    .mk4 1 (some 42) (.mv (.t 0)) none,
    .mk4 2 (some 43) (.nilck (.t 42)) none,
    .mk4 3 (some 44) (.faddr 288 (.t 43)) none,
    .mk4 4 (some 45) (.load1 (.t 44)) none,
    .mk4 5 (some 46) (.mv (.t 1)) none,
    .mk4 6 (some 47) (.bslice 1 1 [.ptr none] [(0, (.t 46))]) none,
    .mk4 7 (some 48) (.append 1 8 (.t 45) (.t 47)) none,
    .mk4 8 (some 49) (.nilck (.t 41)) none,
    .mk4 9 (some 50) (.faddr 288 (.t 49)) none,
    .mk4 10 none (.store 1 (.t 50) (.t 48)) none] []
def c28_4 : AC :=
  .seq (.seq (.region 0 [.mk4 0 (some 8) (.mv (.t 2)) none,
    .mk4 1 (some 9) (.lenL (.t 8)) none,
    .mk4 2 (some 10) (.mv (.c (.i 0))) none] [0, 1, 8, 9, 10]) (.block 0 (.loop [0, 1, 8, 9, 10] (.seq (.region 0 [.mk4 0 (some 11) (.bin .lss (.t 10) (.t 9)) none] [0, 1, 8, 9, 10, 11]) (.seq (.cond (.t 11) (.skip) (.exit 0)) (c28_2)))))) (c28_3)
def c28 : AFn := ⟨3, 51, [],
  (c28_4)⟩
def c29_0 : AC :=
  .seq (.region 0 [.mk4 0 (some 10) (.mv (.t 0)) none,
    .mk4 1 (some 11) (.mkSlice 1 1 [.int .u8 0] (.t 10) (.t 10)) none,
    .mk4 2 (some 12) (.build [.nils, .i 0, .i 0, .int .u64 0, .int .u64 0, .bool false] [(0, 1, (.t 11)), (5, 1, (.c (.bool true)))]) none,
    .mk4 3 (some 13) (.box 6 (.t 12)) none,
    .mk4 4 (some 2) (.mv (.t 13)) none,
    .mk4 5 (some 3) (.mv (.c (.i 0))) none] [2, 3]) (.ret)
def c29_1 : AC :=
  .seq (.seq (.region 0 [.mk4 0 (some 4) (.mv (.t 0)) none,
    .mk4 1 (some 5) (.bin .lss (.t 4) (.c (.i 0))) none,
    .mk4 2 (some 6) (.mv (.t 5)) none,
    .mk4 3 (some 7) (.mv (.t 0)) (some (6, false)),
    .mk4 4 (some 8) (.bin .gtr (.t 7) (.c (.i 65536))) (some (6, false)),
    .mk4 5 (some 9) (.pick (.t 6) (.c (.bool true)) (.t 8)) none] [0, 9]) (.cond (.t 9) (.seq (.region 0 [.mk4 0 (some 2) (.mv (.c (.ptr none))) none,
    .mk4 1 (some 3) (.mv (.c (.i 2))) none] [2, 3]) (.ret)) (.skip))) (c29_0)
def c29 : AFn := ⟨1, 14, [.tmp 2, .tmp 3],
  (.seq (.region 0 [.mk4 0 (some 2) (.mv (.c (.ptr none))) none,
    .mk4 1 (some 3) (.mv (.c (.i 0))) none] [0]) (c29_1))⟩
def c30 : AFn := ⟨0, 3, [.tmp 0],
  (.seq (.region 0 [.mk4 0 (some 0) (.mv (.c (.ptr none))) none] []) (.seq (.region 0 [.mk4 0 (some 1) (.build (List.replicate 192 (.i 0 : V) ++ [.bool false]) [(192, 1, (.c (.bool true)))]) none,
    .mk4 1 (some 2) (.box 193 (.t 1)) none,
    .mk4 2 (some 0) (.mv (.t 2)) none] [0]) (.ret)))⟩
def c31_0 : AC :=
  .seq (.region 0 [.mk4 0 (some 10) (.mv (.t 1)) none,
    .mk4 1 (some 11) (.bin .lss (.t 10) (.c (.i 0))) none,
    .mk4 2 (some 9) (.mv (.t 11)) none] [0, 1, 9]) (.cond (.t 9) (.seq (.region 0 [.mk4 0 (some 4) (.mv (.c (.ptr none))) none,
    .mk4 1 (some 5) (.mv (.c (.i 2))) none] [4, 5]) (.ret)) (.skip))
def c31_1 : AC :=
  .seq (.region 0 [.mk4 0 (some 7) (.mv (.t 0)) none,
    .mk4 1 (some 8) (.eq .ptr false (.t 7) (.c (.ptr none))) none,
    .mk4 2 (some 6) (.mv (.t 8)) none] [0, 1, 6]) (.cond (.t 6) (.seq (.region 0 [.mk4 0 (some 4) (.mv (.c (.ptr none))) none,
    .mk4 1 (some 5) (.mv (.c (.i 1))) none] [4, 5]) (.ret)) (c31_0))
def c31_2 : AC :=
  .seq (.region 0 [.mk4 0 (some 12) (.mv (.t 0)) none,
    .mk4 1 (some 13) (.mv (.t 1)) none,
    .mk4 2 (some 14) (.mkMap) none,
    .mk4 3 (some 15) (.build [.ptr none, .i 0, .map none] [(0, 1, (.t 12)), (1, 1, (.t 13)), (2, 1, (.t 14))]) none,
    .mk4 4 (some 16) (.box 3 (.t 15)) none,
    .mk4 5 (some 4) (.mv (.t 16)) none,
    .mk4 6 (some 5) (.mv (.c (.i 0))) none] [4, 5]) (.ret)
def c31 : AFn := ⟨2, 17, [.tmp 4, .tmp 5],
  (.seq (.region 0 [.mk4 0 (some 4) (.mv (.c (.ptr none))) none,
    .mk4 1 (some 5) (.mv (.c (.i 0))) none] [0, 1]) (.seq (.block 0 (c31_1)) (c31_2)))⟩
def c32_0 : AC :=
  .seq (.region 0 [.mk4 0 (some 6) (.mv (.t 0)) none,
    .mk4 1 (some 7) (.mkMap) none,
    .mk4 2 (some 8) (.build [.ptr none, .map none] [(0, 1, (.t 6)), (1, 1, (.t 7))]) none,
    .mk4 3 (some 9) (.box 2 (.t 8)) none,
    .mk4 4 (some 2) (.mv (.t 9)) none,
    .mk4 5 (some 3) (.mv (.c (.i 0))) none] [2, 3]) (.ret)
def c32_1 : AC :=
  .seq (.region 0 [.mk4 0 (some 2) (.mv (.c (.ptr none))) none,
    .mk4 1 (some 3) (.mv (.c (.i 0))) none] [0]) (.seq (.seq (.region 0 [.mk4 0 (some 4) (.mv (.t 0)) none,
    .mk4 1 (some 5) (.eq .ptr false (.t 4) (.c (.ptr none))) none] [0, 5]) (.cond (.t 5) (.seq (.region 0 [.mk4 0 (some 2) (.mv (.c (.ptr none))) none,
    .mk4 1 (some 3) (.mv (.c (.i 1))) none] [2, 3]) (.ret)) (.skip))) (c32_0))
def c32 : AFn := ⟨1, 10, [.tmp 2, .tmp 3],
  (c32_1)⟩
def c33_0 : AC :=
  .seq (.region 0 [.mk4 0 (some 3) (.mv (.t 0)) none,
    .mk4 1 (some 4) (.bin .geq (.t 3) (.c (.i 1))) none,
    .mk4 2 (some 5) (.mv (.t 4)) none,
    .mk4 3 (some 6) (.mv (.t 0)) (some (5, true)),
    .mk4 4 (some 7) (.bin .leq (.t 6) (.c (.i 4))) (some (5, true)),
    .mk4 5 (some 8) (.pick (.t 5) (.t 7) (.c (.bool false))) none,
    .mk4 6 (some 2) (.mv (.t 8)) none] [2]) (.ret)
def c33 : AFn := ⟨1, 9, [.tmp 2],
  (.seq (.region 0 [.mk4 0 (some 2) (.mv (.c (.bool false))) none] [0]) (c33_0))⟩
def c34_0 : AC :=
  .seq (.region 0 [.mk4 0 (some 12) (.mv (.t 5)) none,
    .mk4 1 (some 13) (.bin .neq (.t 12) (.c (.str []))) none] [3, 8, 9, 13]) (.cond (.t 13) (.region 0 [.mk4 0 (some 14) (.mv (.t 3)) none,
    .mk4 1 (some 15) (.bin .add (.t 14) (.c (.i 1))) none,
    .mk4 2 (some 3) (.mv (.t 15)) none] [3, 8, 9]) (.skip))
def c34_1 : AC :=
  .seq (.cond (.t 10) (.skip) (.exit 0)) (.seq (.block 1 (.seq (.region 0 [.mk4 0 (some 11) (.ixA 6 1 none (.t 8) (.t 9)) none,
    .mk4 1 (some 5) (.mv (.t 11)) none] [3, 5, 8, 9]) (c34_0))) (.region 0 [.mk4 0 (some 16) (.bin .add (.t 9) (.c (.i 1))) none,
    .mk4 1 (some 9) (.mv (.t 16)) none] [3, 8, 9]))
def c34_2 : AC :=
  .seq (.seq (.region 0 [.mk4 0 (some 6) (.mv (.t 0)) none,
    .mk4 1 (some 7) (.ixaA 3 6 (.c (.p 1 0)) (.t 6)) none,
    .mk4 2 (some 8) (.loadN 6 (.t 7)) none,
    .mk4 3 (some 9) (.mv (.c (.i 0))) none] [3, 8, 9]) (.block 0 (.loop [3, 8, 9] (.seq (.region 0 [.mk4 0 (some 10) (.bin .lss (.t 9) (.c (.i 6))) none] [3, 8, 9, 10]) (c34_1))))) (.seq (.region 0 [.mk4 0 (some 17) (.mv (.t 3)) none,
    .mk4 1 (some 2) (.mv (.t 17)) none] [2]) (.ret))
def c34 : AFn := ⟨1, 18, [.tmp 2],
  (.seq (.region 0 [.mk4 0 (some 2) (.mv (.c (.i 0))) none] [0]) (.seq (.region 0 [.mk4 0 (some 3) (.mv (.c (.i 0))) none] [0, 3]) (c34_2)))⟩
def c35_0 : AC :=
  .seq (.region 0 [.mk4 0 (some 4) (.mv (.c (.bool false))) none] [0, 1]) (.seq (.region 0 [.mk4 0 (some 5) (.mv (.t 0)) none,
    .mk4 1 (some 6) (.mv (.t 1)) none,
    .mk4 2 (some 7) (.call 37 [(.t 5), (.t 6)]) none,
    .mk4 3 (some 8) (.bin .geq (.t 7) (.c (.i 0))) none,
    .mk4 4 (some 4) (.mv (.t 8)) none] [4]) (.ret))
def c35 : AFn := ⟨2, 9, [.tmp 4],
  (c35_0)⟩
def c36 : AFn := ⟨1, 4, [.tmp 2],
  (.seq (.region 0 [.mk4 0 (some 1) (.box 1 (.t 0)) none,
    .mk4 1 (some 2) (.mv (.c (.nilfn))) none] [1]) (.seq (.region 0 [.mk4 0 (some 3) (.mkClo 38 [(.t 1)]) none,
    .mk4 1 (some 2) (.mv (.t 3)) none] [2]) (.ret)))⟩
def c37_0 : AC :=
  .seq (.region 0 [.mk4 0 (some 11) (.mv (.t 1)) none,
    .mk4 1 (some 12) (.mv (.t 0)) none,
    .mk4 2 (some 13) (.mv (.t 5)) none,
    .mk4 3 (some 14) (.ixaS 1 (.t 12) (.t 13)) none,
    .mk4 4 (some 15) (.load1 (.t 14)) none,
    .mk4 5 (some 16) (.bin .eql (.t 11) (.t 15)) none] [0, 1, 5, 7, 8, 16]) (.cond (.t 16) (.seq (.region 0 [.mk4 0 (some 17) (.mv (.t 5)) none,
    .mk4 1 (some 4) (.mv (.t 17)) none] [4]) (.ret)) (.skip))
def c37_1 : AC :=
  .seq (.region 0 [.mk4 0 (some 9) (.bin .lss (.t 8) (.t 7)) none] [0, 1, 7, 8, 9]) (.seq (.cond (.t 9) (.skip) (.exit 0)) (.seq (.block 1 (.seq (.region 0 [.mk4 0 (some 10) (.mv (.t 8)) none,
    .mk4 1 (some 5) (.mv (.t 10)) none] [0, 1, 5, 7, 8]) (c37_0))) (.region 0 [.mk4 0 (some 18) (.bin .add (.t 8) (.c (.i 1))) none,
    .mk4 1 (some 8) (.mv (.t 18)) none] [0, 1, 7, 8])))
def c37_2 : AC :=
  .seq (.region 0 [.mk4 0 (some 4) (.mv (.c (.i 0))) none] [0, 1]) (.seq (.seq (.region 0 [.mk4 0 (some 6) (.mv (.t 0)) none,
    .mk4 1 (some 7) (.lenL (.t 6)) none,
    .mk4 2 (some 8) (.mv (.c (.i 0))) none] [0, 1, 7, 8]) (.block 0 (.loop [0, 1, 7, 8] (c37_1)))) (.seq (.region 0 [.mk4 0 (some 4) (.mv (.c (.i (-1)))) none] [4]) (.ret)))
def c37 : AFn := ⟨2, 19, [.tmp 4],
  (c37_2)⟩
def c38_0 : AC :=
  .seq (.region 0 [.mk4 0 (some 13) (.faddr 0 (.t 4)) none,
    .mk4 1 (some 14) (.load1 (.t 13)) none,
    .mk4 2 (some 15) (.un .not (.t 14)) none,
    .mk4 3 (some 16) (.mv (.t 15)) none,
    .mk4 4 (some 17) (.mv (.t 0)) (some (16, true)),
    .mk4 5 (some 18) (.mv (.t 3)) (some (16, true)),
    .mk4 6 (some 19) (.callv (.t 17) [(.t 18)]) (some (16, true)),
    .mk4 7 (some 20) (.un .not (.t 19)) (some (16, true)),
    .mk4 8 (some 21) (.pick (.t 16) (.t 20) (.c (.bool false))) none] [0, 8, 9, 21]) (.cond (.t 21) (.ret) (.skip))
def c38_1 : AC :=
  .seq (.block 1 (.seq (.region 0 [.mk4 0 (some 11) (.mv (.t 9)) none,
    .mk4 1 (some 12) (.ixA 96 3 (some 3) (.t 8) (.t 9)) none,
    .mk4 2 (some 4) (.alloc 3 [.bool false, .i 0, .i 0]) none,
    .mk4 3 (some 3) (.mv (.t 11)) none,
    .mk4 4 none (.store 3 (.t 4) (.t 12)) none] [0, 3, 4, 8, 9]) (c38_0))) (.region 0 [.mk4 0 (some 22) (.bin .add (.t 9) (.c (.i 1))) none,
    .mk4 1 (some 9) (.mv (.t 22)) none] [0, 8, 9])
def c38_2 : AC :=
  .seq (.region 0 [.mk4 0 (some 5) (.load1 (.t 1)) none,
    .mk4 1 (some 6) (.nilck (.t 5)) none,
    .mk4 2 (some 7) (.faddr 0 (.t 6)) none,
    .mk4 3 (some 8) (.loadN 288 (.t 7)) none,
    .mk4 4 (some 9) (.mv (.c (.i 0))) none] [0, 8, 9]) (.block 0 (.loop [0, 8, 9] (.seq (.region 0 [.mk4 0 (some 10) (.bin .lss (.t 9) (.c (.i 96))) none] [0, 8, 9, 10]) (.seq (.cond (.t 10) (.skip) (.exit 0)) (c38_1)))))
def c38 : AFn := ⟨2, 23, [],
  (c38_2)⟩
def c54_0 : AC :=
  .seq (.region 0 [.mk4 0 (some 36) (.faddr 1 (.t 7)) none,
    .mk4 1 (some 37) (.load1 (.t 36)) none,
    .mk4 2 (some 38) (.faddr 1 (.t 10)) none,
    .mk4 3 (some 39) (.load1 (.t 38)) none,
    .mk4 4 (some 40) (.bin .neq (.t 37) (.t 39)) none,
    .mk4 5 (some 41) (.mv (.t 40)) none,
    .mk4 6 (some 42) (.faddr 2 (.t 7)) (some (41, false)),
    .mk4 7 (some 43) (.load1 (.t 42)) (some (41, false)),
    .mk4 8 (some 44) (.faddr 2 (.t 10)) (some (41, false)),
    .mk4 9 (some 45) (.load1 (.t 44)) (some (41, false)),
    .mk4 10 (some 46) (.bin .eql (.t 43) (.t 45)) (some (41, false)),
    .mk4 11 (some 47) (.pick (.t 41) (.c (.bool true)) (.t 46)) none,
    .mk4 12 (some 48) (.mv (.t 47)) none,
    .mk4 13 (some 49) (.mv (.t 8)) (some (48, false)),
    .mk4 14 (some 50) (.nilck (.t 49)) (some (48, false)),
    .mk4 15 (some 51) (.faddr 0 (.t 50)) (some (48, false)),
    .mk4 16 (some 52) (.ixaA 2 7 (.t 51) (.c (.i 0))) (some (48, false)),
    .mk4 17 (some 53) (.faddr 2 (.t 52)) (some (48, false)),
    .mk4 18 (some 54) (.load1 (.t 53)) (some (48, false)),
    .mk4 19 (some 55) (.eq .ptr false (.t 54) (.c (.ptr none))) (some (48, false)),
    .mk4 20 (some 56) (.pick (.t 48) (.c (.bool true)) (.t 55)) none,
    .mk4 21 (some 57) (.mv (.t 56)) none,
    .mk4 22 (some 58) (.mv (.t 8)) (some (57, false)),
    .mk4 23 (some 59) (.nilck (.t 58)) (some (57, false)),
    .mk4 24 (some 60) (.faddr 0 (.t 59)) (some (57, false)),
    .mk4 25 (some 61) (.ixaA 2 7 (.t 60) (.c (.i 1))) (some (57, false)),
    .mk4 26 (some 62) (.faddr 2 (.t 61)) (some (57, false)),
    .mk4 27 (some 63) (.load1 (.t 62)) (some (57, false)),
    .mk4 28 (some 64) (.eq .ptr false (.t 63) (.c (.ptr none))) (some (57, false)),
    .mk4 29 (some 65) (.pick (.t 57) (.c (.bool true)) (.t 64)) none,
    .mk4 30 (some 35) (.mv (.t 65)) none] [0, 7, 35]) (.cond (.t 35) (.seq (.region 0 [.mk4 0 (some 6) (.mv (.c (.i 111))) none] [6]) (.ret)) (.skip))
def c54_1 : AC :=
  .seq (.region 0 [.mk4 0 (some 32) (.mv (.t 12)) none,
    .mk4 1 (some 33) (.bin .neq (.t 32) (.c (.i 0))) none,
    .mk4 2 (some 31) (.mv (.t 33)) none] [0, 7, 8, 10, 12, 31]) (.cond (.t 31) (.seq (.region 0 [.mk4 0 (some 34) (.mv (.t 12)) none,
    .mk4 1 (some 6) (.mv (.t 34)) none] [6]) (.ret)) (c54_0))
def c54_2 : AC :=
  .seq (.region 0 [.mk4 0 (some 28) (.mv (.t 9)) none,
    .mk4 1 (some 29) (.bin .neq (.t 28) (.c (.i 0))) none,
    .mk4 2 (some 27) (.mv (.t 29)) none] [0, 7, 8, 9, 10, 12, 27]) (.cond (.t 27) (.seq (.region 0 [.mk4 0 (some 30) (.mv (.t 9)) none,
    .mk4 1 (some 6) (.mv (.t 30)) none] [6]) (.ret)) (c54_1))
def c54_3 : AC :=
  .seq (.region 0 [.mk4 0 (some 66) (.mv (.t 0)) none,
    .mk4 1 (some 67) (.loadN 3 (.t 7)) none,
    .mk4 2 (some 68) (.nilck (.t 66)) none,
    .mk4 3 (some 69) (.faddr 291 (.t 68)) none,
    .mk4 4 none (.store 3 (.t 69) (.t 67)) none] [0]) (.seq (.region 0 [.mk4 0 (some 70) (.mv (.t 0)) none,
    .mk4 1 (some 71) (.call 55 [(.t 70)]) none] []) (.seq (.region 0 [.mk4 0 (some 6) (.mv (.c (.i 0))) none] [6]) (.ret)))
def c54_4 : AC :=
  .seq (.region 0 [.mk4 0 (some 21) (.mv (.t 0)) none,
    .mk4 1 (some 22) (.mv (.t 2)) none,
    .mk4 2 (some 23) (.call 56 [(.t 21), (.t 22)]) none,
    .mk4 3 (some 20) (.mv (.t 23)) none,
    .mk4 4 (some 24) (.extract (.t 20) 0) none,
    .mk4 5 (some 25) (.extract (.t 20) 1) none,
    .mk4 6 (some 26) (.extract (.t 20) 2) none,
    .mk4 7 (some 10) (.alloc 3 [.bool false, .i 0, .i 0]) none,
    .mk4 8 none (.store 3 (.t 10) (.t 24)) none,
    .mk4 9 (some 11) (.mv (.t 25)) none,
    .mk4 10 (some 12) (.mv (.t 26)) none] [0, 7, 8, 9, 10, 12]) (.seq (.block 0 (c54_2)) (c54_3))
def c54_5 : AC :=
  .seq (.region 0 [.mk4 0 (some 14) (.mv (.t 0)) none,
    .mk4 1 (some 15) (.mv (.t 1)) none,
    .mk4 2 (some 16) (.call 56 [(.t 14), (.t 15)]) none,
    .mk4 3 (some 13) (.mv (.t 16)) none,
    .mk4 4 (some 17) (.extract (.t 13) 0) none,
    .mk4 5 (some 18) (.extract (.t 13) 1) none,
    .mk4 6 (some 19) (.extract (.t 13) 2) none,
    .mk4 7 (some 7) (.alloc 3 [.bool false, .i 0, .i 0]) none,
    .mk4 8 none (.store 3 (.t 7) (.t 17)) none,
    .mk4 9 (some 8) (.mv (.t 18)) none,
    .mk4 10 (some 9) (.mv (.t 19)) none] [0, 2, 7, 8, 9]) (c54_4)
def c54 : AFn := ⟨3, 72, [.tmp 6],
  (.seq (.region 0 [.mk4 0 (some 6) (.mv (.c (.i 0))) none] [0, 1, 2]) (c54_5))⟩
def c55_0 : AC :=
  .cond (.t 48) (.region 0 [.mk4 0 (some 52) (.mv (.t 2)) none,
    .mk4 1 (some 53) (.mv (.t 3)) none,
    .mk4 2 (some 54) (.bin .sub (.c (.i 1)) (.t 53)) none,
    .mk4 3 (some 55) (.bslice 1 1 [.int .u8 0] [(0, (.c (.int .u8 1)))]) none,
    .mk4 4 (some 56) (.call 61 [(.t 52), (.t 54), (.t 55)]) none] []) (.skip)
def c55_1 : AC :=
  .region 0 [.mk4 0 (some 41) (.mv (.t 2)) none,
    .mk4 1 (some 42) (.mv (.t 3)) none,
    .mk4 2 (some 43) (.bin .sub (.c (.i 1)) (.t 42)) none,
    .mk4 3 (some 44) (.mv (.t 4)) none,
    .mk4 4 (some 45) (.call 59 [(.t 44)]) none,
    .mk4 5 (some 46) (.bin .gtr (.t 45) (.c (.i 0))) none,
    .mk4 6 (some 47) (.call 58 [(.t 41), (.t 43), (.c (.bool false)), (.t 46)]) none] []
def c55_2 : AC :=
  .seq (.region 0 [.mk4 0 (some 35) (.mv (.t 0)) none,
    .mk4 1 (some 36) (.nilck (.t 35)) none,
    .mk4 2 (some 37) (.faddr 289 (.t 36)) none,
    .mk4 3 (some 38) (.load1 (.t 37)) none,
    .mk4 4 (some 39) (.call 57 [(.t 38)]) none,
    .mk4 5 (some 40) (.bin .eql (.t 39) (.c (.i 0))) none,
    .mk4 6 (some 34) (.mv (.t 40)) none] [2, 3, 4, 34]) (.cond (.t 34) (c55_1) (.seq (.region 0 [.mk4 0 (some 49) (.mv (.t 4)) none,
    .mk4 1 (some 50) (.call 60 [(.t 49)]) none,
    .mk4 2 (some 51) (.bin .eql (.t 50) (.c (.i 0))) none,
    .mk4 3 (some 48) (.mv (.t 51)) none] [2, 3, 48]) (c55_0)))
def c55_3 : AC :=
  .seq (.region 0 [.mk4 0 (some 27) (.mv (.t 2)) none,
    .mk4 1 (some 28) (.mv (.t 3)) none,
    .mk4 2 (some 29) (.nilck (.t 27)) none,
    .mk4 3 (some 30) (.faddr 0 (.t 29)) none,
    .mk4 4 (some 31) (.ixaA 2 7 (.t 30) (.t 28)) none,
    .mk4 5 (some 32) (.faddr 2 (.t 31)) none,
    .mk4 6 (some 33) (.load1 (.t 32)) none,
    .mk4 7 (some 4) (.mv (.t 33)) none] [0, 2, 3, 4]) (.block 0 (c55_2))
def c55_4 : AC :=
  .seq (.region 0 [.mk4 0 (some 11) (.mv (.t 0)) none,
    .mk4 1 (some 12) (.nilck (.t 11)) none,
    .mk4 2 (some 13) (.faddr 288 (.t 12)) none,
    .mk4 3 (some 14) (.load1 (.t 13)) none,
    .mk4 4 (some 15) (.mv (.t 0)) none,
    .mk4 5 (some 16) (.nilck (.t 15)) none,
    .mk4 6 (some 17) (.faddr 291 (.t 16)) none,
    .mk4 7 (some 18) (.faddr 1 (.t 17)) none,
    .mk4 8 (some 19) (.load1 (.t 18)) none,
    .mk4 9 (some 20) (.ixaS 1 (.t 14) (.t 19)) none,
    .mk4 10 (some 21) (.load1 (.t 20)) none,
    .mk4 11 (some 22) (.mv (.t 0)) none,
    .mk4 12 (some 23) (.nilck (.t 22)) none,
    .mk4 13 (some 24) (.faddr 291 (.t 23)) none,
    .mk4 14 (some 25) (.faddr 2 (.t 24)) none,
    .mk4 15 (some 26) (.load1 (.t 25)) none,
    .mk4 16 (some 2) (.mv (.t 21)) none,
    .mk4 17 (some 3) (.mv (.t 26)) none] [0, 2, 3]) (c55_3)
def c55_5 : AC :=
  .seq (.seq (.region 0 [.mk4 0 (some 5) (.mv (.t 0)) none,
    .mk4 1 (some 6) (.nilck (.t 5)) none,
    .mk4 2 (some 7) (.faddr 291 (.t 6)) none,
    .mk4 3 (some 8) (.faddr 0 (.t 7)) none,
    .mk4 4 (some 9) (.load1 (.t 8)) none,
    .mk4 5 (some 10) (.un .not (.t 9)) none] [0, 10]) (.cond (.t 10) (.ret) (.skip))) (c55_4)
def c55 : AFn := ⟨1, 57, [],
  (c55_5)⟩
def c56_0 : AC :=
  .seq (.region 0 [.mk4 0 (some 12) (.mv (.t 1)) none,
    .mk4 1 (some 13) (.bin .lss (.t 12) (.c (.i 0))) none,
    .mk4 2 (some 14) (.mv (.t 13)) none,
    .mk4 3 (some 15) (.mv (.t 1)) (some (14, false)),
    .mk4 4 (some 16) (.bin .gtr (.t 15) (.c (.i 95))) (some (14, false)),
    .mk4 5 (some 17) (.pick (.t 14) (.c (.bool true)) (.t 16)) none,
    .mk4 6 (some 18) (.mv (.t 17)) none,
    .mk4 7 (some 19) (.mv (.t 0)) (some (18, false)),
    .mk4 8 (some 20) (.mv (.t 1)) (some (18, false)),
    .mk4 9 (some 21) (.nilck (.t 19)) (some (18, false)),
    .mk4 10 (some 22) (.faddr 0 (.t 21)) (some (18, false)),
    .mk4 11 (some 23) (.ixaA 96 3 (.t 22) (.t 20)) (some (18, false)),
    .mk4 12 (some 24) (.faddr 0 (.t 23)) (some (18, false)),
    .mk4 13 (some 25) (.load1 (.t 24)) (some (18, false)),
    .mk4 14 (some 26) (.un .not (.t 25)) (some (18, false)),
    .mk4 15 (some 27) (.pick (.t 18) (.c (.bool true)) (.t 26)) none,
    .mk4 16 (some 11) (.mv (.t 27)) none] [0, 1, 4, 11]) (.cond (.t 11) (.seq (.region 0 [.mk4 0 (some 28) (.build [.bool false, .i 0, .i 0] []) none,
    .mk4 1 none (.store 3 (.t 4) (.t 28)) none,
    .mk4 2 (some 5) (.mv (.c (.ptr none))) none,
    .mk4 3 (some 6) (.mv (.c (.i 110))) none] [4, 5, 6]) (.ret)) (.skip))
def c56_1 : AC :=
  .seq (.region 0 [.mk4 0 (some 8) (.mv (.t 0)) none,
    .mk4 1 (some 9) (.call 25 [(.t 8)]) none,
    .mk4 2 (some 7) (.mv (.t 9)) none] [0, 1, 4, 7]) (.cond (.t 7) (.seq (.region 0 [.mk4 0 (some 10) (.build [.bool false, .i 0, .i 0] []) none,
    .mk4 1 none (.store 3 (.t 4) (.t 10)) none,
    .mk4 2 (some 5) (.mv (.c (.ptr none))) none,
    .mk4 3 (some 6) (.mv (.c (.i 1))) none] [4, 5, 6]) (.ret)) (c56_0))
def c56_2 : AC :=
  .seq (.region 0 [.mk4 0 (some 29) (.mv (.t 0)) none,
    .mk4 1 (some 30) (.mv (.t 1)) none,
    .mk4 2 (some 31) (.nilck (.t 29)) none,
    .mk4 3 (some 32) (.faddr 0 (.t 31)) none,
    .mk4 4 (some 33) (.ixaA 96 3 (.t 32) (.t 30)) none,
    .mk4 5 (some 34) (.loadN 3 (.t 33)) none,
    .mk4 6 (some 35) (.mv (.t 0)) none,
    .mk4 7 (some 36) (.nilck (.t 35)) none,
    .mk4 8 (some 37) (.faddr 288 (.t 36)) none,
    .mk4 9 (some 38) (.load1 (.t 37)) none,
    .mk4 10 (some 39) (.mv (.t 0)) none,
    .mk4 11 (some 40) (.mv (.t 1)) none,
    .mk4 12 (some 41) (.nilck (.t 39)) none,
    .mk4 13 (some 42) (.faddr 0 (.t 41)) none,
    .mk4 14 (some 43) (.ixaA 96 3 (.t 42) (.t 40)) none,
    .mk4 15 (some 44) (.faddr 1 (.t 43)) none,
    .mk4 16 (some 45) (.load1 (.t 44)) none,
    .mk4 17 (some 46) (.ixaS 1 (.t 38) (.t 45)) none,
    .mk4 18 (some 47) (.load1 (.t 46)) none,
    ⟨19, none, .store 3 (.t 4) (.t 34), none, none, [(38, .load1 (.t 37), none), (45, .load1 (.t 44), none), (47, .load1 (.t 46), none)]⟩,
    .mk4 20 (some 5) (.mv (.t 47)) none,
    .mk4 21 (some 6) (.mv (.c (.i 0))) none] [4, 5, 6]) (.ret)
def c56 : AFn := ⟨2, 48, [.cellN 4 3, .tmp 5, .tmp 6],
  (.seq (.region 0 [.mk4 0 (some 4) (.alloc 3 [.bool false, .i 0, .i 0]) none,
    .mk4 1 (some 5) (.mv (.c (.ptr none))) none,
    .mk4 2 (some 6) (.mv (.c (.i 0))) none] [0, 1, 4]) (.seq (.block 0 (c56_1)) (c56_2)))⟩
def c57_0 : AC :=
  .rangeFunc (.t 6) [7] [3] (.region 0 [.mk4 0 (some 4) (.alloc 2 [.i 0, .i 0]) none,
    .mk4 1 none (.store 2 (.t 4) (.t 7)) none] [3, 4]) (.block 1 (.region 0 [.mk4 0 (some 8) (.load1 (.t 3)) none,
    .mk4 1 (some 9) (.faddr 1 (.t 4)) none,
    .mk4 2 (some 10) (.load1 (.t 9)) none,
    .mk4 3 (some 11) (.bin .add (.t 8) (.t 10)) none,
    .mk4 4 none (.store 1 (.t 3) (.t 11)) none] []))
def c57_1 : AC :=
  .seq (.region 0 [.mk4 0 (some 3) (.alloc 1 [.i 0]) none,
    .mk4 1 none (.store 1 (.t 3) (.c (.i 0))) none] [0, 3]) (.seq (.seq (.region 0 [.mk4 0 (some 5) (.mv (.t 0)) none,
    .mk4 1 (some 6) (.call 62 [(.t 5)]) none] [3, 6]) (.block 0 (c57_0))) (.seq (.region 0 [.mk4 0 (some 12) (.load1 (.t 3)) none,
    .mk4 1 (some 2) (.mv (.t 12)) none] [2]) (.ret)))
def c57 : AFn := ⟨1, 13, [.tmp 2],
  (.seq (.region 0 [.mk4 0 (some 2) (.mv (.c (.i 0))) none] [0]) (c57_1))⟩
def c58_0 : AC :=
  .region 0 [.mk4 0 (some 41) (.mv (.t 0)) none,
    .mk4 1 (some 42) (.mv (.t 1)) none,
    .mk4 2 (some 43) (.nilck (.t 41)) none,
    .mk4 3 (some 44) (.faddr 0 (.t 43)) none,
    .mk4 4 (some 45) (.ixaA 2 7 (.t 44) (.t 42)) none,
    .mk4 5 (some 46) (.faddr 6 (.t 45)) none,
    .mk4 6 (some 47) (.load1 (.t 46)) none,
    .mk4 7 (some 48) (.bin .add (.t 47) (.c (.int .u64 1))) none,
    .mk4 8 (some 49) (.nilck (.t 41)) none,
    .mk4 9 (some 50) (.faddr 0 (.t 49)) none,
    .mk4 10 (some 51) (.ixaA 2 7 (.t 50) (.t 42)) none,
    .mk4 11 (some 52) (.faddr 6 (.t 51)) none,
    .mk4 12 none (.store 1 (.t 52) (.t 48)) none] []
def c58_1 : AC :=
  .region 0 [.mk4 0 (some 19) (.mv (.t 0)) none,
    .mk4 1 (some 20) (.mv (.t 1)) none,
    .mk4 2 (some 21) (.nilck (.t 19)) none,
    .mk4 3 (some 22) (.faddr 0 (.t 21)) none,
    .mk4 4 (some 23) (.ixaA 2 7 (.t 22) (.t 20)) none,
    .mk4 5 (some 24) (.faddr 5 (.t 23)) none,
    .mk4 6 (some 25) (.load1 (.t 24)) none,
    .mk4 7 (some 26) (.bin .add (.t 25) (.c (.int .u64 1))) none,
    .mk4 8 (some 27) (.nilck (.t 19)) none,
    .mk4 9 (some 28) (.faddr 0 (.t 27)) none,
    .mk4 10 (some 29) (.ixaA 2 7 (.t 28) (.t 20)) none,
    .mk4 11 (some 30) (.faddr 5 (.t 29)) none,
    .mk4 12 none (.store 1 (.t 30) (.t 26)) none] [0, 1, 3]
def c58_2 : AC :=
  .seq (.region 0 [.mk4 0 (some 31) (.mv (.t 3)) none,
    .mk4 1 (some 32) (.mv (.t 31)) none,
    .mk4 2 (some 33) (.mv (.t 0)) (some (32, true)),
    .mk4 3 (some 34) (.mv (.t 1)) (some (32, true)),
    .mk4 4 (some 35) (.nilck (.t 33)) (some (32, true)),
    .mk4 5 (some 36) (.faddr 0 (.t 35)) (some (32, true)),
    .mk4 6 (some 37) (.ixaA 2 7 (.t 36) (.t 34)) (some (32, true)),
    .mk4 7 (some 38) (.faddr 3 (.t 37)) (some (32, true)),
    .mk4 8 (some 39) (.load1 (.t 38)) (some (32, true)),
    .mk4 9 (some 40) (.pick (.t 32) (.t 39) (.c (.bool false))) none] [0, 1, 40]) (.cond (.t 40) (c58_0) (.skip))
def c58_3 : AC :=
  .seq (.seq (.region 0 [.mk4 0 (some 8) (.mv (.t 2)) none,
    .mk4 1 (some 9) (.mv (.t 8)) none,
    .mk4 2 (some 10) (.mv (.t 0)) (some (9, true)),
    .mk4 3 (some 11) (.mv (.t 1)) (some (9, true)),
    .mk4 4 (some 12) (.nilck (.t 10)) (some (9, true)),
    .mk4 5 (some 13) (.faddr 0 (.t 12)) (some (9, true)),
    .mk4 6 (some 14) (.ixaA 2 7 (.t 13) (.t 11)) (some (9, true)),
    .mk4 7 (some 15) (.faddr 2 (.t 14)) (some (9, true)),
    .mk4 8 (some 16) (.load1 (.t 15)) (some (9, true)),
    .mk4 9 (some 17) (.eq .ptr true (.t 16) (.c (.ptr none))) (some (9, true)),
    .mk4 10 (some 18) (.pick (.t 9) (.t 17) (.c (.bool false))) none] [0, 1, 3, 18]) (.cond (.t 18) (c58_1) (.skip))) (c58_2)
def c58 : AFn := ⟨4, 53, [],
  (c58_3)⟩
def c59_0 : AC :=
  .seq (.region 0 [.mk4 0 (some 2) (.mv (.c (.i 0))) none] [0]) (.seq (.region 0 [.mk4 0 (some 3) (.mv (.t 0)) none,
    .mk4 1 (some 4) (.mv (.t 0)) none,
    .mk4 2 (some 5) (.call 60 [(.t 4)]) none,
    .mk4 3 (some 6) (.call 63 [(.t 3), (.t 5)]) none,
    .mk4 4 (some 7) (.lenL (.t 6)) none,
    .mk4 5 (some 2) (.mv (.t 7)) none] [2]) (.ret))
def c59 : AFn := ⟨1, 8, [.tmp 2],
  (c59_0)⟩
def c60_0 : AC :=
  .seq (.seq (.region 0 [.mk4 0 (some 3) (.mv (.t 0)) none,
    .mk4 1 (some 4) (.call 64 [(.t 3)]) none] [0, 4]) (.cond (.t 4) (.seq (.region 0 [.mk4 0 (some 2) (.mv (.c (.i 0))) none] [2]) (.ret)) (.skip))) (.seq (.region 0 [.mk4 0 (some 5) (.mv (.t 0)) none,
    .mk4 1 (some 6) (.nilck (.t 5)) none,
    .mk4 2 (some 7) (.faddr 2 (.t 6)) none,
    .mk4 3 (some 8) (.load1 (.t 7)) none,
    .mk4 4 (some 2) (.mv (.t 8)) none] [2]) (.ret))
def c60 : AFn := ⟨1, 9, [.tmp 2],
  (.seq (.region 0 [.mk4 0 (some 2) (.mv (.c (.i 0))) none] [0]) (c60_0))⟩
def c61_0 : AC :=
  .seq (.region 0 [.mk4 0 (some 18) (.mv (.t 0)) none,
    .mk4 1 (some 19) (.mv (.t 1)) none,
    .mk4 2 (some 20) (.bin .sub (.c (.i 1)) (.t 19)) none,
    .mk4 3 (some 21) (.mv (.t 7)) none,
    .mk4 4 (some 22) (.bin .gtr (.t 21) (.c (.i 0))) none,
    .mk4 5 (some 23) (.call 58 [(.t 18), (.t 20), (.t 22), (.c (.bool false))]) none] [7]) (.seq (.region 0 [.mk4 0 (some 24) (.mv (.t 7)) none,
    .mk4 1 (some 6) (.mv (.t 24)) none] [6]) (.ret))
def c61_1 : AC :=
  .seq (.region 0 [.mk4 0 (some 8) (.mv (.t 0)) none,
    .mk4 1 (some 9) (.mv (.t 1)) none,
    .mk4 2 (some 10) (.bin .sub (.c (.i 1)) (.t 9)) none,
    .mk4 3 (some 11) (.nilck (.t 8)) none,
    .mk4 4 (some 12) (.faddr 0 (.t 11)) none,
    .mk4 5 (some 13) (.ixaA 2 7 (.t 12) (.t 10)) none,
    .mk4 6 (some 14) (.faddr 2 (.t 13)) none,
    .mk4 7 (some 15) (.load1 (.t 14)) none,
    .mk4 8 (some 16) (.mv (.t 2)) none,
    .mk4 9 (some 17) (.call 65 [(.t 15), (.t 16)]) none,
    .mk4 10 (some 7) (.mv (.t 17)) none] [0, 1, 7]) (c61_0)
def c61 : AFn := ⟨3, 25, [.tmp 6],
  (.seq (.region 0 [.mk4 0 (some 6) (.mv (.c (.i 0))) none] [0, 1, 2]) (c61_1))⟩
def c62 : AFn := ⟨1, 4, [.tmp 2],
  (.seq (.region 0 [.mk4 0 (some 1) (.box 1 (.t 0)) none,
    .mk4 1 (some 2) (.mv (.c (.nilfn))) none] [1]) (.seq (.region 0 [.mk4 0 (some 3) (.mkClo 66 [(.t 1)]) none,
    .mk4 1 (some 2) (.mv (.t 3)) none] [2]) (.ret)))⟩
def c63_0 : AC :=
  .region 0 [.mk4 0 (some 37) (.mv (.t 0)) none,
    .mk4 1 (some 38) (.nilck (.t 37)) none,
    .mk4 2 (some 39) (.faddr 4 (.t 38)) none,
    .mk4 3 (some 40) (.load1 (.t 39)) none,
    .mk4 4 (some 41) (.mv (.t 5)) none,
    .mk4 5 (some 42) (.lenL (.t 41)) none,
    .mk4 6 (some 43) (.convInt .u64 (.t 42)) none,
    .mk4 7 (some 44) (.bin .add (.t 40) (.t 43)) none,
    .mk4 8 (some 45) (.nilck (.t 37)) none,
    .mk4 9 (some 46) (.faddr 4 (.t 45)) none,
    .mk4 10 none (.store 1 (.t 46) (.t 44)) none] [5]
def c63_1 : AC :=
  .seq (.region 0 [.mk4 0 (some 28) (.mv (.t 0)) none,
    .mk4 1 (some 29) (.nilck (.t 28)) none,
    .mk4 2 (some 30) (.faddr 2 (.t 29)) none,
    .mk4 3 (some 31) (.load1 (.t 30)) none,
    .mk4 4 (some 32) (.mv (.t 5)) none,
    .mk4 5 (some 33) (.lenL (.t 32)) none,
    .mk4 6 (some 34) (.bin .sub (.t 31) (.t 33)) none,
    .mk4 7 (some 35) (.nilck (.t 28)) none,
    .mk4 8 (some 36) (.faddr 2 (.t 35)) none,
    .mk4 9 none (.store 1 (.t 36) (.t 34)) none] [0, 5]) (c63_0)
def c63_2 : AC :=
  .seq (.region 0 [.mk4 0 (some 12) (.mv (.t 0)) none,
    .mk4 1 (some 13) (.mv (.t 0)) none,
    .mk4 2 (some 14) (.nilck (.t 13)) none,
    .mk4 3 (some 15) (.faddr 1 (.t 14)) none,
    .mk4 4 (some 16) (.load1 (.t 15)) none,
    .mk4 5 (some 17) (.mv (.t 5)) none,
    .mk4 6 (some 18) (.lenL (.t 17)) none,
    .mk4 7 (some 19) (.bin .add (.t 16) (.t 18)) none,
    .mk4 8 (some 20) (.mv (.t 0)) none,
    .mk4 9 (some 21) (.nilck (.t 20)) none,
    .mk4 10 (some 22) (.faddr 0 (.t 21)) none,
    .mk4 11 (some 23) (.load1 (.t 22)) none,
    .mk4 12 (some 24) (.lenL (.t 23)) none,
    .mk4 13 (some 25) (.bin .rem (.t 19) (.t 24)) none,
    .mk4 14 (some 26) (.nilck (.t 12)) none,
    .mk4 15 (some 27) (.faddr 1 (.t 26)) none,
    .mk4 16 none (.store 1 (.t 27) (.t 25)) none] [0, 5]) (c63_1)
def c63_3 : AC :=
  .seq (.seq (.region 0 [.mk4 0 (some 9) (.mv (.t 5)) none,
    .mk4 1 (some 10) (.lenL (.t 9)) none,
    .mk4 2 (some 11) (.bin .gtr (.t 10) (.c (.i 0))) none] [0, 5, 11]) (.cond (.t 11) (c63_2) (.skip))) (.seq (.region 0 [.mk4 0 (some 47) (.mv (.t 5)) none,
    .mk4 1 (some 4) (.mv (.t 47)) none] [4]) (.ret))
def c63 : AFn := ⟨2, 48, [.tmp 4],
  (.seq (.region 0 [.mk4 0 (some 4) (.mv (.c (.nils))) none] [0, 1]) (.seq (.region 0 [.mk4 0 (some 6) (.mv (.t 0)) none,
    .mk4 1 (some 7) (.mv (.t 1)) none,
    .mk4 2 (some 8) (.call 68 [(.t 6), (.t 7)]) none,
    .mk4 3 (some 5) (.mv (.t 8)) none] [0, 5]) (c63_3)))⟩
def c64_0 : AC :=
  .seq (.region 0 [.mk4 0 (some 3) (.mv (.t 0)) none,
    .mk4 1 (some 4) (.eq .ptr false (.t 3) (.c (.ptr none))) none,
    .mk4 2 (some 5) (.mv (.t 4)) none,
    .mk4 3 (some 6) (.mv (.t 0)) (some (5, false)),
    .mk4 4 (some 7) (.nilck (.t 6)) (some (5, false)),
    .mk4 5 (some 8) (.faddr 5 (.t 7)) (some (5, false)),
    .mk4 6 (some 9) (.load1 (.t 8)) (some (5, false)),
    .mk4 7 (some 10) (.un .not (.t 9)) (some (5, false)),
    .mk4 8 (some 11) (.pick (.t 5) (.c (.bool true)) (.t 10)) none,
    .mk4 9 (some 2) (.mv (.t 11)) none] [2]) (.ret)
def c64 : AFn := ⟨1, 12, [.tmp 2],
  (.seq (.region 0 [.mk4 0 (some 2) (.mv (.c (.bool false))) none] [0]) (c64_0))⟩
def c65_0 : AC :=
  .seq (.region 0 [.mk4 0 (some 46) (.mv (.t 0)) none,
    .mk4 1 (some 47) (.nilck (.t 46)) none,
    .mk4 2 (some 48) (.faddr 3 (.t 47)) none,
    .mk4 3 (some 49) (.load1 (.t 48)) none,
    .mk4 4 (some 50) (.mv (.t 1)) none,
    .mk4 5 (some 51) (.lenL (.t 50)) none,
    .mk4 6 (some 52) (.convInt .u64 (.t 51)) none,
    .mk4 7 (some 53) (.bin .add (.t 49) (.t 52)) none,
    .mk4 8 (some 54) (.nilck (.t 46)) none,
    .mk4 9 (some 55) (.faddr 3 (.t 54)) none,
    .mk4 10 none (.store 1 (.t 55) (.t 53)) none] [1]) (.seq (.region 0 [.mk4 0 (some 56) (.mv (.t 1)) none,
    .mk4 1 (some 57) (.lenL (.t 56)) none,
    .mk4 2 (some 4) (.mv (.t 57)) none] [4]) (.ret))
def c65_1 : AC :=
  .region 0 [.mk4 0 (some 32) (.load1 (.t 5)) none,
    .mk4 1 (some 33) (.mv (.t 6)) none,
    .mk4 2 (some 34) (.load1 (.t 5)) none,
    ⟨3, (some 35), .copy 1 (.t 33) (.t 34), none, none, [(32, .load1 (.t 5), none)]⟩,
    .mk4 4 (some 36) (.slice 1 (.t 32) (some (.t 35)) none none) none,
    .mk4 5 none (.store 1 (.t 5) (.t 36)) none] []
def c65_2 : AC :=
  .seq (.region 0 [.mk4 0 (some 37) (.mv (.t 0)) none,
    .mk4 1 (some 38) (.nilck (.t 37)) none,
    .mk4 2 (some 39) (.faddr 2 (.t 38)) none,
    .mk4 3 (some 40) (.load1 (.t 39)) none,
    .mk4 4 (some 41) (.mv (.t 1)) none,
    .mk4 5 (some 42) (.lenL (.t 41)) none,
    .mk4 6 (some 43) (.bin .add (.t 40) (.t 42)) none,
    .mk4 7 (some 44) (.nilck (.t 37)) none,
    .mk4 8 (some 45) (.faddr 2 (.t 44)) none,
    .mk4 9 none (.store 1 (.t 45) (.t 43)) none] [0, 1]) (c65_0)
def c65_3 : AC :=
  .seq (.seq (.region 0 [.mk4 0 (some 18) (.mv (.t 0)) none,
    .mk4 1 (some 19) (.mv (.t 0)) none,
    .mk4 2 (some 20) (.nilck (.t 19)) none,
    .mk4 3 (some 21) (.faddr 1 (.t 20)) none,
    .mk4 4 (some 22) (.load1 (.t 21)) none,
    .mk4 5 (some 23) (.mv (.t 0)) none,
    .mk4 6 (some 24) (.nilck (.t 23)) none,
    .mk4 7 (some 25) (.faddr 2 (.t 24)) none,
    .mk4 8 (some 26) (.load1 (.t 25)) none,
    .mk4 9 (some 27) (.bin .add (.t 22) (.t 26)) none,
    .mk4 10 (some 28) (.mv (.t 1)) none,
    .mk4 11 (some 29) (.lenL (.t 28)) none,
    .mk4 12 (some 30) (.call 70 [(.t 18), (.t 27), (.t 29)]) none] [0, 1, 5, 30]) (.block 0 (.rangeFunc (.t 30) [31] [5] (.region 0 [.mk4 0 (some 6) (.mv (.t 31)) none] [5, 6]) (.block 1 (c65_1))))) (c65_2)
def c65_4 : AC :=
  .seq (.seq (.region 0 [.mk4 0 (some 14) (.mv (.t 1)) none,
    .mk4 1 (some 15) (.lenL (.t 14)) none,
    .mk4 2 (some 16) (.bin .eql (.t 15) (.c (.i 0))) none] [0, 1, 16]) (.cond (.t 16) (.seq (.region 0 [.mk4 0 (some 4) (.mv (.c (.i 0))) none] [4]) (.ret)) (.skip))) (.seq (.region 0 [.mk4 0 (some 17) (.mv (.t 1)) none,
    .mk4 1 (some 5) (.alloc 1 [.nils]) none,
    .mk4 2 none (.store 1 (.t 5) (.t 17)) none] [0, 1, 5]) (c65_3))
def c65_5 : AC :=
  .seq (.region 0 [.mk4 0 (some 7) (.mv (.t 1)) none,
    .mk4 1 (some 8) (.mv (.t 1)) none,
    .mk4 2 (some 9) (.lenL (.t 8)) none,
    .mk4 3 (some 10) (.mv (.t 0)) none,
    .mk4 4 (some 11) (.call 69 [(.t 10)]) none,
    .mk4 5 (some 12) (.minI [(.t 9), (.t 11)]) none,
    .mk4 6 (some 13) (.slice 1 (.t 7) none (some (.t 12)) none) none,
    .mk4 7 (some 1) (.mv (.t 13)) none] [0, 1]) (c65_4)
def c65 : AFn := ⟨2, 58, [.tmp 4],
  (.seq (.region 0 [.mk4 0 (some 4) (.mv (.c (.i 0))) none] [0, 1]) (c65_5))⟩
def c66_0 : AC :=
  .seq (.region 0 [.mk4 0 (some 13) (.mv (.t 0)) none,
    .mk4 1 (some 14) (.mv (.t 3)) none,
    .mk4 2 (some 15) (.mv (.t 4)) none,
    .mk4 3 (some 16) (.build [.i 0, .i 0] [(0, 1, (.t 14)), (1, 1, (.t 15))]) none,
    .mk4 4 (some 17) (.callv (.t 13) [(.t 16)]) none,
    .mk4 5 (some 18) (.un .not (.t 17)) none] [0, 1, 5, 18]) (.cond (.t 18) (.ret) (.skip))
def c66_1 : AC :=
  .seq (.region 0 [.mk4 0 (some 8) (.load1 (.t 1)) none,
    .mk4 1 (some 9) (.mv (.t 3)) none,
    .mk4 2 (some 10) (.call 67 [(.t 8), (.t 9)]) none,
    .mk4 3 (some 4) (.mv (.t 10)) none] [0, 1, 3, 4, 5]) (.seq (.seq (.region 0 [.mk4 0 (some 11) (.mv (.t 4)) none,
    .mk4 1 (some 12) (.bin .eql (.t 11) (.c (.i 0))) none] [0, 1, 3, 4, 5, 12]) (.cond (.t 12) (.exit 1) (.skip))) (c66_0))
def c66_2 : AC :=
  .seq (.region 0 [.mk4 0 (some 6) (.bin .lss (.t 5) (.c (.i 32))) none] [0, 1, 5, 6]) (.seq (.cond (.t 6) (.skip) (.exit 0)) (.seq (.block 1 (.seq (.region 0 [.mk4 0 (some 7) (.mv (.t 5)) none,
    .mk4 1 (some 3) (.mv (.t 7)) none] [0, 1, 3, 5]) (c66_1))) (.region 0 [.mk4 0 (some 19) (.bin .add (.t 5) (.c (.i 1))) none,
    .mk4 1 (some 5) (.mv (.t 19)) none] [0, 1, 5])))
def c66 : AFn := ⟨2, 20, [],
  (.scope (.seq (.label 0) (.seq (.region 0 [.mk4 0 (some 5) (.mv (.c (.i 0))) none] [0, 1, 5]) (.block 0 (.loop [0, 1, 5] (c66_2))))))⟩
def c67_0 : AC :=
  .seq (.region 0 [.mk4 0 (some 9) (.mv (.t 0)) none,
    .mk4 1 (some 10) (.mv (.t 1)) none,
    .mk4 2 (some 11) (.nilck (.t 9)) none,
    .mk4 3 (some 12) (.faddr 32 (.t 11)) none,
    .mk4 4 (some 13) (.ixaA 32 1 (.t 12) (.t 10)) none,
    .mk4 5 (some 14) (.load1 (.t 13)) none,
    .mk4 6 (some 4) (.mv (.t 14)) none] [4]) (.ret)
def c67_1 : AC :=
  .seq (.seq (.region 0 [.mk4 0 (some 5) (.mv (.t 0)) none,
    .mk4 1 (some 6) (.mv (.t 1)) none,
    .mk4 2 (some 7) (.call 71 [(.t 5), (.t 6)]) none,
    .mk4 3 (some 8) (.bin .neq (.t 7) (.c (.i 0))) none] [0, 1, 8]) (.cond (.t 8) (.seq (.region 0 [.mk4 0 (some 4) (.mv (.c (.i 0))) none] [4]) (.ret)) (.skip))) (c67_0)
def c67 : AFn := ⟨2, 15, [.tmp 4],
  (.seq (.region 0 [.mk4 0 (some 4) (.mv (.c (.i 0))) none] [0, 1]) (c67_1))⟩
def c68_0 : AC :=
  .block 0 (.rangeFunc (.t 19) [20] [5] (.region 0 [.mk4 0 (some 6) (.mv (.t 20)) none] [5, 6]) (.block 1 (.region 0 [.mk4 0 (some 21) (.load1 (.t 5)) none,
    .mk4 1 (some 22) (.mv (.t 6)) none,
    .mk4 2 (some 23) (.append 1 1 (.t 21) (.t 22)) none,
    .mk4 3 none (.store 1 (.t 5) (.t 23)) none] [])))
def c68_1 : AC :=
  .seq (.region 0 [.mk4 0 (some 13) (.mv (.t 0)) none,
    .mk4 1 (some 14) (.mv (.t 0)) none,
    .mk4 2 (some 15) (.nilck (.t 14)) none,
    .mk4 3 (some 16) (.faddr 1 (.t 15)) none,
    .mk4 4 (some 17) (.load1 (.t 16)) none,
    .mk4 5 (some 18) (.mv (.t 1)) none,
    .mk4 6 (some 19) (.call 70 [(.t 13), (.t 17), (.t 18)]) none] [5, 19]) (c68_0)
def c68_2 : AC :=
  .seq (.seq (.region 0 [.mk4 0 (some 7) (.mv (.t 1)) none,
    .mk4 1 (some 8) (.mv (.t 0)) none,
    .mk4 2 (some 9) (.call 60 [(.t 8)]) none,
    .mk4 3 (some 10) (.minI [(.t 7), (.t 9)]) none,
    .mk4 4 (some 1) (.mv (.t 10)) none] [0, 1, 5]) (.seq (.region 0 [.mk4 0 (some 11) (.mv (.t 1)) none,
    .mk4 1 (some 12) (.bin .gtr (.t 11) (.c (.i 0))) none] [0, 1, 5, 12]) (.cond (.t 12) (c68_1) (.skip)))) (.seq (.region 0 [.mk4 0 (some 24) (.load1 (.t 5)) none,
    .mk4 1 (some 4) (.mv (.t 24)) none] [4]) (.ret))
def c68 : AFn := ⟨2, 25, [.tmp 4],
  (.seq (.region 0 [.mk4 0 (some 4) (.mv (.c (.nils))) none] [0, 1]) (.seq (.region 0 [.mk4 0 (some 5) (.alloc 1 [.nils]) none] [0, 1, 5]) (c68_2)))⟩
def c69_0 : AC :=
  .seq (.region 0 [.mk4 0 (some 5) (.mv (.t 0)) none,
    .mk4 1 (some 6) (.nilck (.t 5)) none,
    .mk4 2 (some 7) (.faddr 0 (.t 6)) none,
    .mk4 3 (some 8) (.load1 (.t 7)) none,
    .mk4 4 (some 9) (.lenL (.t 8)) none,
    .mk4 5 (some 10) (.mv (.t 0)) none,
    .mk4 6 (some 11) (.nilck (.t 10)) none,
    .mk4 7 (some 12) (.faddr 2 (.t 11)) none,
    .mk4 8 (some 13) (.load1 (.t 12)) none,
    .mk4 9 (some 14) (.bin .sub (.t 9) (.t 13)) none,
    .mk4 10 (some 2) (.mv (.t 14)) none] [2]) (.ret)
def c69 : AFn := ⟨1, 15, [.tmp 2],
  (.seq (.region 0 [.mk4 0 (some 2) (.mv (.c (.i 0))) none] [0]) (.seq (.seq (.region 0 [.mk4 0 (some 3) (.mv (.t 0)) none,
    .mk4 1 (some 4) (.call 64 [(.t 3)]) none] [0, 4]) (.cond (.t 4) (.seq (.region 0 [.mk4 0 (some 2) (.mv (.c (.i 0))) none] [2]) (.ret)) (.skip))) (c69_0)))⟩
def c70_0 : AC :=
  .seq (.region 0 [.mk4 0 (some 3) (.box 1 (.t 0)) none,
    .mk4 1 (some 4) (.box 1 (.t 1)) none,
    .mk4 2 (some 5) (.box 1 (.t 2)) none,
    .mk4 3 (some 6) (.mv (.c (.nilfn))) none] [3, 4, 5]) (.seq (.region 0 [.mk4 0 (some 7) (.mkClo 72 [(.t 5), (.t 4), (.t 3)]) none,
    .mk4 1 (some 6) (.mv (.t 7)) none] [6]) (.ret))
def c70 : AFn := ⟨3, 8, [.tmp 6],
  (c70_0)⟩
def c71_0 : AC :=
  .cond (.t 5) (.seq (.region 0 [.mk4 0 (some 4) (.mv (.c (.i 1))) none] [4]) (.ret)) (.seq (.region 0 [.mk4 0 (some 9) (.mv (.t 1)) none,
    .mk4 1 (some 10) (.call 73 [(.t 9)]) none,
    .mk4 2 (some 11) (.un .not (.t 10)) none,
    .mk4 3 (some 8) (.mv (.t 11)) none] [8]) (.cond (.t 8) (.seq (.region 0 [.mk4 0 (some 4) (.mv (.c (.i 100))) none] [4]) (.ret)) (.skip)))
def c71_1 : AC :=
  .seq (.region 0 [.mk4 0 (some 4) (.mv (.c (.i 0))) none] [0, 1]) (.seq (.block 0 (.seq (.region 0 [.mk4 0 (some 6) (.mv (.t 0)) none,
    .mk4 1 (some 7) (.eq .ptr false (.t 6) (.c (.ptr none))) none,
    .mk4 2 (some 5) (.mv (.t 7)) none] [1, 5]) (c71_0))) (.seq (.region 0 [.mk4 0 (some 4) (.mv (.c (.i 0))) none] [4]) (.ret)))
def c71 : AFn := ⟨2, 12, [.tmp 4],
  (c71_1)⟩
def c72_0 : AC :=
  .seq (.region 0 [.mk4 0 (some 35) (.load1 (.t 2)) none,
    .mk4 1 (some 36) (.mv (.t 6)) none,
    .mk4 2 (some 37) (.lenL (.t 36)) none,
    .mk4 3 (some 38) (.bin .add (.t 35) (.t 37)) none,
    .mk4 4 none (.store 1 (.t 2) (.t 38)) none] [0, 1, 2, 3, 6]) (.region 0 [.mk4 0 (some 39) (.load1 (.t 1)) none,
    .mk4 1 (some 40) (.mv (.t 6)) none,
    .mk4 2 (some 41) (.lenL (.t 40)) none,
    .mk4 3 (some 42) (.bin .sub (.t 39) (.t 41)) none,
    .mk4 4 none (.store 1 (.t 1) (.t 42)) none] [0, 1, 2, 3])
def c72_1 : AC :=
  .seq (.region 0 [.mk4 0 (some 16) (.load1 (.t 3)) none,
    .mk4 1 (some 17) (.nilck (.t 16)) none,
    .mk4 2 (some 18) (.faddr 0 (.t 17)) none,
    .mk4 3 (some 19) (.load1 (.t 18)) none,
    .mk4 4 (some 20) (.mv (.t 5)) none,
    .mk4 5 (some 21) (.mv (.t 5)) none,
    .mk4 6 (some 22) (.load1 (.t 1)) none,
    .mk4 7 (some 23) (.bin .add (.t 21) (.t 22)) none,
    .mk4 8 (some 24) (.load1 (.t 3)) none,
    .mk4 9 (some 25) (.nilck (.t 24)) none,
    .mk4 10 (some 26) (.faddr 0 (.t 25)) none,
    .mk4 11 (some 27) (.load1 (.t 26)) none,
    .mk4 12 (some 28) (.lenL (.t 27)) none,
    .mk4 13 (some 29) (.minI [(.t 23), (.t 28)]) none,
    .mk4 14 (some 30) (.slice 1 (.t 19) (some (.t 20)) (some (.t 29)) none) none,
    .mk4 15 (some 6) (.mv (.t 30)) none] [0, 1, 2, 3, 6]) (.seq (.seq (.region 0 [.mk4 0 (some 31) (.mv (.t 0)) none,
    .mk4 1 (some 32) (.mv (.t 6)) none,
    .mk4 2 (some 33) (.callv (.t 31) [(.t 32)]) none,
    .mk4 3 (some 34) (.un .not (.t 33)) none] [0, 1, 2, 3, 6, 34]) (.cond (.t 34) (.exit 0) (.skip))) (c72_0))
def c72_2 : AC :=
  .seq (.region 0 [.mk4 0 (some 9) (.load1 (.t 2)) none,
    .mk4 1 (some 10) (.load1 (.t 3)) none,
    .mk4 2 (some 11) (.nilck (.t 10)) none,
    .mk4 3 (some 12) (.faddr 0 (.t 11)) none,
    .mk4 4 (some 13) (.load1 (.t 12)) none,
    .mk4 5 (some 14) (.lenL (.t 13)) none,
    .mk4 6 (some 15) (.bin .rem (.t 9) (.t 14)) none,
    .mk4 7 (some 5) (.mv (.t 15)) none] [0, 1, 2, 3, 5]) (c72_1)
def c72 : AFn := ⟨4, 43, [],
  (.scope (.seq (.label 0) (.block 0 (.loop [0, 1, 2, 3] (.seq (.seq (.region 0 [.mk4 0 (some 7) (.load1 (.t 1)) none,
    .mk4 1 (some 8) (.bin .gtr (.t 7) (.c (.i 0))) none] [0, 1, 2, 3, 8]) (.cond (.t 8) (.skip) (.exit 0))) (.block 1 (c72_2)))))))⟩
def c73_0 : AC :=
  .seq (.region 0 [.mk4 0 (some 3) (.mv (.t 0)) none,
    .mk4 1 (some 4) (.bin .geq (.t 3) (.c (.i 1))) none,
    .mk4 2 (some 5) (.mv (.t 4)) none,
    .mk4 3 (some 6) (.mv (.t 0)) (some (5, true)),
    .mk4 4 (some 7) (.bin .leq (.t 6) (.c (.i 31))) (some (5, true)),
    .mk4 5 (some 8) (.pick (.t 5) (.t 7) (.c (.bool false))) none,
    .mk4 6 (some 2) (.mv (.t 8)) none] [2]) (.ret)
def c73 : AFn := ⟨1, 9, [.tmp 2],
  (.seq (.region 0 [.mk4 0 (some 2) (.mv (.c (.bool false))) none] [0]) (c73_0))⟩
def c75_0 : AC :=
  .region 0 [.mk4 0 (some 16) (.mv (.t 0)) none,
    .mk4 1 (some 17) (.mv (.t 1)) none,
    .mk4 2 (some 18) (.nilck (.t 16)) none,
    .mk4 3 (some 19) (.faddr 0 (.t 18)) none,
    .mk4 4 (some 20) (.ixaA 2 7 (.t 19) (.t 17)) none,
    .mk4 5 (some 21) (.faddr 0 (.t 20)) none,
    .mk4 6 none (.store 1 (.t 21) (.c (.i 3))) none] []
def c75_1 : AC :=
  .seq (.region 0 [.mk4 0 (some 4) (.mv (.t 0)) none,
    .mk4 1 (some 5) (.mv (.t 1)) none,
    .mk4 2 (some 6) (.bin .sub (.c (.i 1)) (.t 5)) none,
    .mk4 3 (some 7) (.mv (.t 0)) none,
    .mk4 4 (some 8) (.mv (.t 1)) none,
    .mk4 5 (some 9) (.nilck (.t 7)) none,
    .mk4 6 (some 10) (.faddr 0 (.t 9)) none,
    .mk4 7 (some 11) (.ixaA 2 7 (.t 10) (.t 8)) none,
    .mk4 8 (some 12) (.faddr 4 (.t 11)) none,
    .mk4 9 (some 13) (.load1 (.t 12)) none,
    .mk4 10 (some 14) (.un .not (.t 13)) none,
    .mk4 11 (some 15) (.call 58 [(.t 4), (.t 6), (.t 14), (.c (.bool true))]) none] [0, 1]) (c75_0)
def c75 : AFn := ⟨2, 22, [],
  (c75_1)⟩
def c76_0 : AC :=
  .cond (.t 94) (.region 0 [.mk4 0 (some 95) (.load1 (.t 4)) none,
    .mk4 1 (some 96) (.nilck (.t 95)) none,
    .mk4 2 (some 97) (.faddr 0 (.t 96)) none,
    .mk4 3 (some 98) (.load1 (.t 97)) none,
    .mk4 4 (some 99) (.call 87 [(.t 98)]) none,
    .mk4 5 (some 9) (.mv (.t 99)) none] [8, 9, 10]) (.skip)
def c76_1 : AC :=
  .seq (.region 0 [.mk4 0 (some 100) (.load1 (.t 8)) none,
    .mk4 1 (some 101) (.mv (.t 9)) none,
    .mk4 2 (some 102) (.mv (.t 10)) none,
    .mk4 3 none (.store 1 (.t 8) (.t 100)) none,
    .mk4 4 (some 9) (.mv (.t 101)) none,
    .mk4 5 (some 10) (.mv (.t 102)) none,
    .mk4 6 (some 11) (.mv (.c (.i 0))) none] [8, 9, 10, 11]) (.ret)
def c76_2 : AC :=
  .region 0 [.mk4 0 (some 73) (.load1 (.t 8)) none,
    .mk4 1 (some 74) (.mv (.t 14)) none,
    .mk4 2 (some 75) (.mv (.t 15)) none,
    .mk4 3 (some 76) (.build [.i 0, .i 0] [(0, 1, (.t 74)), (1, 1, (.t 75))]) none,
    .mk4 4 (some 77) (.bslice 2 1 [.i 0, .i 0] [(0, (.t 76))]) none,
    .mk4 5 (some 78) (.append 2 16 (.t 73) (.t 77)) none,
    .mk4 6 none (.store 1 (.t 8) (.t 78)) none] []
def c76_3 : AC :=
  .seq (.region 0 [.mk4 0 (some 61) (.load1 (.t 13)) none,
    .mk4 1 (some 62) (.mv (.t 14)) none,
    .mk4 2 (some 63) (.lookup (.leaf (.int .i64)) (.i 0) false (.t 61) (.t 62)) none,
    .mk4 3 (some 64) (.load1 (.t 4)) none,
    .mk4 4 (some 65) (.mv (.t 14)) none,
    .mk4 5 (some 66) (.nilck (.t 64)) none,
    .mk4 6 (some 67) (.faddr 2 (.t 66)) none,
    .mk4 7 (some 68) (.ixaA 96 1 (.t 67) (.t 65)) none,
    .mk4 8 (some 69) (.load1 (.t 68)) none,
    .mk4 9 (some 70) (.bin .and (.t 63) (.t 69)) none,
    .mk4 10 (some 15) (.mv (.t 70)) none] [8, 14, 15]) (.seq (.region 0 [.mk4 0 (some 71) (.mv (.t 15)) none,
    .mk4 1 (some 72) (.bin .neq (.t 71) (.c (.i 0))) none] [8, 14, 15, 72]) (.cond (.t 72) (c76_2) (.skip)))
def c76_4 : AC :=
  .seq (.seq (.region 0 [.mk4 0 (some 79) (.load1 (.t 4)) none,
    .mk4 1 (some 80) (.nilck (.t 79)) none,
    .mk4 2 (some 81) (.faddr 98 (.t 80)) none,
    .mk4 3 (some 82) (.load1 (.t 81)) none,
    .mk4 4 (some 83) (.bin .gtr (.t 82) (.c (.i 0))) none,
    .mk4 5 (some 84) (.mv (.t 83)) none,
    .mk4 6 (some 85) (.load1 (.t 13)) (some (84, true)),
    .mk4 7 (some 86) (.load1 (.t 4)) (some (84, true)),
    .mk4 8 (some 87) (.nilck (.t 86)) (some (84, true)),
    .mk4 9 (some 88) (.faddr 98 (.t 87)) (some (84, true)),
    .mk4 10 (some 89) (.load1 (.t 88)) (some (84, true)),
    .mk4 11 (some 90) (.bin .sub (.t 89) (.c (.i 1))) (some (84, true)),
    .mk4 12 (some 91) (.lookup (.leaf (.int .i64)) (.i 0) false (.t 85) (.t 90)) (some (84, true)),
    .mk4 13 (some 92) (.bin .and (.t 91) (.c (.i 2))) (some (84, true)),
    .mk4 14 (some 93) (.bin .neq (.t 92) (.c (.i 0))) (some (84, true)),
    .mk4 15 (some 94) (.pick (.t 84) (.t 93) (.c (.bool false))) none] [4, 8, 9, 10, 94]) (c76_0)) (c76_1)
def c76_5 : AC :=
  .seq (.seq (.region 0 [.mk4 0 (some 54) (.mv (.t 11)) none,
    .mk4 1 (some 55) (.bin .neq (.t 54) (.c (.i 0))) none] [4, 8, 9, 10, 11, 13, 55]) (.cond (.t 55) (.seq (.region 0 [.mk4 0 (some 56) (.mv (.t 11)) none,
    .mk4 1 none (.store 1 (.t 8) (.c (.nils))) none,
    .mk4 2 (some 9) (.mv (.c (.nils))) none,
    .mk4 3 (some 10) (.mv (.c (.i 0))) none,
    .mk4 4 (some 11) (.mv (.t 56)) none] [8, 9, 10, 11]) (.ret)) (.skip))) (.seq (.seq (.region 0 [.mk4 0 (some 57) (.load1 (.t 4)) none,
    .mk4 1 (some 58) (.call 86 [(.t 57)]) none] [4, 8, 9, 10, 13, 58]) (.block 0 (.rangeFunc (.t 58) [59, 60] [4, 8, 13] (.region 0 [.mk4 0 (some 14) (.mv (.t 59)) none] [4, 8, 13, 14]) (.block 1 (c76_3))))) (c76_4))
def c76_6 : AC :=
  .seq (.region 1 [.mk4 0 (some 43) (.load1 (.t 12)) none,
    .mk4 1 (some 44) (.load1 (.t 4)) none,
    .mk4 2 (some 45) (.nilck (.t 44)) none,
    .mk4 3 (some 46) (.faddr 0 (.t 45)) none,
    .mk4 4 (some 47) (.load1 (.t 46)) none,
    .mk4 5 (some 48) (.mkBm "roundhouse/dpoll.told" (.t 43)) none,
    .mk4 6 (some 49) (.nilckB "roundhouse/dpoll.told" [(180, 255), (182, 272)] (.t 48)) none,
    .mk4 7 (some 50) (.mv (.t 43)) none,
    .mk4 8 (some 51) (.invoke [(180, 255), (182, 272)] (.t 50) [(.t 47)]) none,
    .mk4 9 (some 42) (.mv (.t 51)) none,
    .mk4 10 (some 52) (.extract (.t 42) 0) none,
    .mk4 11 (some 53) (.extract (.t 42) 1) none,
    ⟨12, (some 13), .alloc 1 [.map none], none, some 0, []⟩,
    .mk4 13 none (.store 1 (.t 13) (.t 52)) none,
    .mk4 14 (some 11) (.mv (.t 53)) none] [4, 8, 9, 10, 11, 13]) (c76_5)
def c76_7 : AC :=
  .seq (.seq (.region 0 [.mk4 0 (some 35) (.mv (.t 10)) none,
    .mk4 1 (some 36) (.bin .eql (.t 35) (.c (.i 3))) none,
    .mk4 2 (some 37) (.mv (.t 36)) none,
    .mk4 3 (some 38) (.mv (.t 10)) (some (37, false)),
    .mk4 4 (some 39) (.bin .eql (.t 38) (.c (.i 4))) (some (37, false)),
    .mk4 5 (some 40) (.pick (.t 37) (.c (.bool true)) (.t 39)) none] [4, 8, 9, 10, 12, 40]) (.cond (.t 40) (.seq (.region 0 [.mk4 0 (some 41) (.mv (.t 10)) none,
    .mk4 1 none (.store 1 (.t 8) (.c (.nils))) none,
    .mk4 2 (some 9) (.mv (.c (.nils))) none,
    .mk4 3 (some 10) (.mv (.t 41)) none,
    .mk4 4 (some 11) (.mv (.c (.i 0))) none] [8, 9, 10, 11]) (.ret)) (.skip))) (c76_6)
def c76_8 : AC :=
  .seq (.region 0 [.mk4 0 (some 26) (.mv (.t 1)) none,
    .mk4 1 (some 27) (.load1 (.t 4)) none,
    .mk4 2 (some 28) (.nilck (.t 27)) none,
    .mk4 3 (some 29) (.faddr 0 (.t 28)) none,
    .mk4 4 (some 30) (.load1 (.t 29)) none,
    .mk4 5 (some 31) (.mv (.t 2)) none,
    .mk4 6 (some 32) (.mv (.t 3)) none,
    .mk4 7 (some 33) (.mkClo 85 [(.t 12), (.t 4)]) none,
    .mk4 8 (some 34) (.call 84 [(.t 26), (.t 30), (.t 31), (.t 32), (.t 33)]) none,
    .mk4 9 (some 10) (.mv (.t 34)) none] [4, 8, 9, 10, 12]) (c76_7)
def c76_9 : AC :=
  .seq (.seq (.region 0 [.mk4 0 (some 18) (.mv (.t 1)) none,
    .mk4 1 (some 19) (.eq .ptr false (.t 18) (.c (.ptr none))) none] [1, 2, 3, 4, 8, 9, 19]) (.cond (.t 19) (.region 0 [.mk4 0 (some 21) (.call 82 [(.c (.nils))]) none,
    .mk4 1 (some 20) (.mv (.t 21)) none,
    .mk4 2 (some 22) (.extract (.t 20) 0) none,
    .mk4 3 (some 23) (.extract (.t 20) 1) none,
    .mk4 4 (some 1) (.mv (.t 22)) none] [1, 2, 3, 4, 8, 9]) (.skip))) (.seq (.region 0 [.mk4 0 (some 24) (.load1 (.t 4)) none,
    .mk4 1 (some 25) (.call 83 [(.t 24)]) none,
    .mk4 2 (some 12) (.alloc 1 [.nili]) none,
    .mk4 3 none (.store 1 (.t 12) (.t 25)) none] [1, 2, 3, 4, 8, 9, 12]) (c76_8))
def c76_10 : AC :=
  .seq (.seq (.region 0 [.mk4 0 (some 16) (.load1 (.t 4)) none,
    .mk4 1 (some 17) (.call 81 [(.t 16)]) none] [1, 2, 3, 4, 8, 9, 17]) (.cond (.t 17) (.seq (.region 0 [.mk4 0 none (.store 1 (.t 8) (.c (.nils))) none,
    .mk4 1 (some 9) (.mv (.c (.nils))) none,
    .mk4 2 (some 10) (.mv (.c (.i 0))) none,
    .mk4 3 (some 11) (.mv (.c (.i 1))) none] [8, 9, 10, 11]) (.ret)) (.skip))) (c76_9)
def c76 : AFn := ⟨4, 103, [.cell1 8, .tmp 9, .tmp 10, .tmp 11],
  (.seq (.region 0 [.mk4 0 (some 4) (.box 1 (.t 0)) none,
    .mk4 1 (some 8) (.alloc 1 [.nils]) none,
    .mk4 2 (some 9) (.mv (.c (.nils))) none,
    .mk4 3 (some 10) (.mv (.c (.i 0))) none,
    .mk4 4 (some 11) (.mv (.c (.i 0))) none] [1, 2, 3, 4, 8, 9]) (c76_10))⟩
def c77_0 : AC :=
  .cond (.t 10) (.region 0 [.mk4 0 (some 11) (.mv (.t 0)) none,
    .mk4 1 (some 12) (.mv (.t 1)) none,
    .mk4 2 (some 13) (.nilck (.t 11)) none,
    .mk4 3 (some 14) (.faddr 2 (.t 13)) none,
    .mk4 4 (some 15) (.ixaA 96 1 (.t 14) (.t 12)) none,
    .mk4 5 none (.store 1 (.t 15) (.c (.i 0))) none] []) (.skip)
def c77_1 : AC :=
  .seq (.region 0 [.mk4 0 (some 4) (.mv (.t 0)) none,
    .mk4 1 (some 5) (.call 81 [(.t 4)]) none,
    .mk4 2 (some 6) (.un .not (.t 5)) none,
    .mk4 3 (some 7) (.mv (.t 6)) none,
    .mk4 4 (some 8) (.mv (.t 1)) (some (7, true)),
    .mk4 5 (some 9) (.call 89 [(.t 8)]) (some (7, true)),
    .mk4 6 (some 10) (.pick (.t 7) (.t 9) (.c (.bool false))) none] [0, 1, 10]) (c77_0)
def c77 : AFn := ⟨2, 16, [],
  (c77_1)⟩
def c78_0 : AC :=
  .seq (.region 0 [.mk4 0 (some 16) (.mv (.t 0)) none,
    .mk4 1 (some 17) (.mv (.t 1)) none,
    .mk4 2 (some 18) (.nilck (.t 16)) none,
    .mk4 3 (some 19) (.faddr 2 (.t 18)) none,
    .mk4 4 (some 20) (.ixaA 96 1 (.t 19) (.t 17)) none,
    .mk4 5 (some 21) (.load1 (.t 20)) none,
    .mk4 6 (some 22) (.bin .neq (.t 21) (.c (.i 0))) none] [0, 1, 22]) (.cond (.t 22) (.seq (.region 0 [.mk4 0 (some 4) (.mv (.c (.i 2))) none] [4]) (.ret)) (.skip))
def c78_1 : AC :=
  .seq (.seq (.region 0 [.mk4 0 (some 10) (.mv (.t 0)) none,
    .mk4 1 (some 11) (.mv (.t 1)) none,
    .mk4 2 (some 12) (.call 88 [(.t 10), (.t 11)]) none,
    .mk4 3 (some 5) (.mv (.t 12)) none] [0, 1, 5]) (.seq (.region 0 [.mk4 0 (some 13) (.mv (.t 5)) none,
    .mk4 1 (some 14) (.bin .neq (.t 13) (.c (.i 0))) none] [0, 1, 5, 14]) (.cond (.t 14) (.seq (.region 0 [.mk4 0 (some 15) (.mv (.t 5)) none,
    .mk4 1 (some 4) (.mv (.t 15)) none] [4]) (.ret)) (.skip)))) (c78_0)
def c78_2 : AC :=
  .seq (.region 0 [.mk4 0 (some 23) (.mv (.t 0)) none,
    .mk4 1 (some 24) (.mv (.t 1)) none,
    .mk4 2 (some 25) (.bin .add (.t 24) (.c (.i 1))) none,
    .mk4 3 (some 26) (.nilck (.t 23)) none,
    .mk4 4 (some 27) (.faddr 98 (.t 26)) none,
    .mk4 5 none (.store 1 (.t 27) (.t 25)) none] []) (.seq (.region 0 [.mk4 0 (some 4) (.mv (.c (.i 0))) none] [4]) (.ret))
def c78_3 : AC :=
  .seq (.seq (.region 0 [.mk4 0 (some 6) (.mv (.t 0)) none,
    .mk4 1 (some 7) (.call 81 [(.t 6)]) none] [0, 1, 7]) (.cond (.t 7) (.seq (.region 0 [.mk4 0 (some 4) (.mv (.c (.i 1))) none] [4]) (.ret)) (.skip))) (.seq (.seq (.region 0 [.mk4 0 (some 8) (.mv (.t 1)) none,
    .mk4 1 (some 9) (.bin .neq (.t 8) (.c (.i (-1)))) none] [0, 1, 9]) (.cond (.t 9) (c78_1) (.skip))) (c78_2))
def c78 : AFn := ⟨2, 28, [.tmp 4],
  (.seq (.region 0 [.mk4 0 (some 4) (.mv (.c (.i 0))) none] [0, 1]) (c78_3))⟩
def c79_0 : AC :=
  .seq (.region 0 [.mk4 0 (some 48) (.mv (.t 0)) none,
    .mk4 1 (some 49) (.mv (.t 1)) none,
    .mk4 2 (some 50) (.mv (.t 2)) none,
    .mk4 3 (some 51) (.nilck (.t 48)) none,
    .mk4 4 (some 52) (.faddr 2 (.t 51)) none,
    .mk4 5 (some 53) (.ixaA 96 1 (.t 52) (.t 49)) none,
    .mk4 6 none (.store 1 (.t 53) (.t 50)) none] []) (.seq (.region 0 [.mk4 0 (some 6) (.mv (.c (.i 0))) none] [6]) (.ret))
def c79_1 : AC :=
  .seq (.region 0 [.mk4 0 (some 34) (.mv (.t 2)) none,
    .mk4 1 (some 35) (.bin .eql (.t 34) (.c (.i 0))) none,
    .mk4 2 (some 33) (.mv (.t 35)) none] [0, 1, 2, 33]) (.cond (.t 33) (.seq (.region 0 [.mk4 0 (some 36) (.mv (.t 0)) none,
    .mk4 1 (some 37) (.mv (.t 1)) none,
    .mk4 2 (some 38) (.call 77 [(.t 36), (.t 37)]) none] []) (.seq (.region 0 [.mk4 0 (some 6) (.mv (.c (.i 0))) none] [6]) (.ret))) (.skip))
def c79_2 : AC :=
  .region 0 [.mk4 0 (some 22) (.mv (.t 2)) none,
    .mk4 1 (some 23) (.bin .neq (.t 22) (.c (.i 0))) none,
    .mk4 2 (some 24) (.mv (.t 23)) none,
    .mk4 3 (some 25) (.mv (.t 1)) (some (24, true)),
    .mk4 4 (some 26) (.bin .add (.t 25) (.c (.i 1))) (some (24, true)),
    .mk4 5 (some 27) (.mv (.t 0)) (some (24, true)),
    .mk4 6 (some 28) (.nilck (.t 27)) (some (24, true)),
    .mk4 7 (some 29) (.faddr 98 (.t 28)) (some (24, true)),
    .mk4 8 (some 30) (.load1 (.t 29)) (some (24, true)),
    .mk4 9 (some 31) (.bin .eql (.t 26) (.t 30)) (some (24, true)),
    .mk4 10 (some 32) (.pick (.t 24) (.t 31) (.c (.bool false))) none,
    .mk4 11 (some 11) (.mv (.t 32)) none] [0, 1, 2, 11]
def c79_3 : AC :=
  .seq (.region 0 [.mk4 0 (some 15) (.mv (.t 2)) none,
    .mk4 1 (some 16) (.bin .andNot (.t 15) (.c (.i 38))) none,
    .mk4 2 (some 17) (.bin .neq (.t 16) (.c (.i 0))) none,
    .mk4 3 (some 18) (.mv (.t 17)) none,
    .mk4 4 (some 19) (.mv (.t 2)) (some (18, false)),
    .mk4 5 (some 20) (.bin .eql (.t 19) (.c (.i 32))) (some (18, false)),
    .mk4 6 (some 21) (.pick (.t 18) (.c (.bool true)) (.t 20)) none,
    .mk4 7 (some 11) (.mv (.t 21)) none] [0, 1, 2, 11]) (.cond (.t 11) (.skip) (c79_2))
def c79_4 : AC :=
  .seq (.seq (.region 0 [.mk4 0 (some 12) (.mv (.t 1)) none,
    .mk4 1 (some 13) (.call 89 [(.t 12)]) none,
    .mk4 2 (some 14) (.un .not (.t 13)) none,
    .mk4 3 (some 11) (.mv (.t 14)) none] [0, 1, 2, 11]) (.cond (.t 11) (.skip) (c79_3))) (.cond (.t 11) (.seq (.region 0 [.mk4 0 (some 6) (.mv (.c (.i 2))) none] [6]) (.ret)) (c79_1))
def c79_5 : AC :=
  .seq (.seq (.region 0 [.mk4 0 (some 39) (.mv (.t 0)) none,
    .mk4 1 (some 40) (.mv (.t 1)) none,
    .mk4 2 (some 41) (.call 88 [(.t 39), (.t 40)]) none,
    .mk4 3 (some 7) (.mv (.t 41)) none] [0, 1, 2, 7]) (.seq (.region 0 [.mk4 0 (some 42) (.mv (.t 7)) none,
    .mk4 1 (some 43) (.bin .neq (.t 42) (.c (.i 0))) none] [0, 1, 2, 7, 43]) (.cond (.t 43) (.seq (.region 0 [.mk4 0 (some 44) (.mv (.t 7)) none,
    .mk4 1 (some 6) (.mv (.t 44)) none] [6]) (.ret)) (.skip)))) (.seq (.seq (.region 0 [.mk4 0 (some 45) (.mv (.t 2)) none,
    .mk4 1 (some 46) (.bin .and (.t 45) (.c (.i 32))) none,
    .mk4 2 (some 47) (.bin .neq (.t 46) (.c (.i 0))) none] [0, 1, 2, 47]) (.cond (.t 47) (.seq (.region 0 [.mk4 0 (some 6) (.mv (.c (.i 191))) none] [6]) (.ret)) (.skip))) (c79_0))
def c79_6 : AC :=
  .seq (.region 0 [.mk4 0 (some 6) (.mv (.c (.i 0))) none] [0, 1, 2]) (.seq (.block 0 (.seq (.region 0 [.mk4 0 (some 9) (.mv (.t 0)) none,
    .mk4 1 (some 10) (.call 81 [(.t 9)]) none,
    .mk4 2 (some 8) (.mv (.t 10)) none] [0, 1, 2, 8]) (.cond (.t 8) (.seq (.region 0 [.mk4 0 (some 6) (.mv (.c (.i 1))) none] [6]) (.ret)) (c79_4)))) (c79_5))
def c79 : AFn := ⟨3, 54, [.tmp 6],
  (c79_6)⟩
def c80_0 : AC :=
  .seq (.region 0 [.mk4 0 (some 12) (.mv (.t 0)) none,
    .mk4 1 (some 13) (.mv (.t 1)) none,
    .mk4 2 (some 14) (.nilck (.t 12)) none,
    .mk4 3 (some 15) (.faddr 2 (.t 14)) none,
    .mk4 4 (some 16) (.ixaA 96 1 (.t 15) (.t 13)) none,
    .mk4 5 (some 17) (.load1 (.t 16)) none,
    .mk4 6 (some 4) (.mv (.t 17)) none] [4]) (.ret)
def c80_1 : AC :=
  .seq (.seq (.region 0 [.mk4 0 (some 5) (.mv (.t 0)) none,
    .mk4 1 (some 6) (.call 81 [(.t 5)]) none,
    .mk4 2 (some 7) (.mv (.t 6)) none,
    .mk4 3 (some 8) (.mv (.t 1)) (some (7, false)),
    .mk4 4 (some 9) (.call 89 [(.t 8)]) (some (7, false)),
    .mk4 5 (some 10) (.un .not (.t 9)) (some (7, false)),
    .mk4 6 (some 11) (.pick (.t 7) (.c (.bool true)) (.t 10)) none] [0, 1, 11]) (.cond (.t 11) (.seq (.region 0 [.mk4 0 (some 4) (.mv (.c (.i 0))) none] [4]) (.ret)) (.skip))) (c80_0)
def c80 : AFn := ⟨2, 18, [.tmp 4],
  (.seq (.region 0 [.mk4 0 (some 4) (.mv (.c (.i 0))) none] [0, 1]) (c80_1))⟩
def c81_0 : AC :=
  .seq (.region 0 [.mk4 0 (some 3) (.mv (.t 0)) none,
    .mk4 1 (some 4) (.eq .ptr false (.t 3) (.c (.ptr none))) none,
    .mk4 2 (some 5) (.mv (.t 4)) none,
    .mk4 3 (some 6) (.mv (.t 0)) (some (5, false)),
    .mk4 4 (some 7) (.nilck (.t 6)) (some (5, false)),
    .mk4 5 (some 8) (.faddr 0 (.t 7)) (some (5, false)),
    .mk4 6 (some 9) (.load1 (.t 8)) (some (5, false)),
    .mk4 7 (some 10) (.eq .ptr false (.t 9) (.c (.ptr none))) (some (5, false)),
    .mk4 8 (some 11) (.pick (.t 5) (.c (.bool true)) (.t 10)) none,
    .mk4 9 (some 2) (.mv (.t 11)) none] [2]) (.ret)
def c81 : AFn := ⟨1, 12, [.tmp 2],
  (.seq (.region 0 [.mk4 0 (some 2) (.mv (.c (.bool false))) none] [0]) (c81_0))⟩
def c82_0 : AC :=
  .seq (.region 0 [.mk4 0 (some 7) (.mv (.t 0)) none,
    .mk4 1 (some 8) (.call 91 [(.t 7)]) none,
    .mk4 2 (some 9) (.build [.nils, .nils] [(0, 1, (.t 8))]) none,
    .mk4 3 (some 10) (.box 2 (.t 9)) none,
    .mk4 4 (some 2) (.mv (.t 10)) none,
    .mk4 5 (some 3) (.mv (.c (.i 0))) none] [2, 3]) (.ret)
def c82_1 : AC :=
  .seq (.seq (.region 0 [.mk4 0 (some 4) (.mv (.t 0)) none,
    .mk4 1 (some 5) (.call 90 [(.t 4)]) none,
    .mk4 2 (some 6) (.un .not (.t 5)) none] [0, 6]) (.cond (.t 6) (.seq (.region 0 [.mk4 0 (some 2) (.mv (.c (.ptr none))) none,
    .mk4 1 (some 3) (.mv (.c (.i 120))) none] [2, 3]) (.ret)) (.skip))) (c82_0)
def c82 : AFn := ⟨1, 11, [.tmp 2, .tmp 3],
  (.seq (.region 0 [.mk4 0 (some 2) (.mv (.c (.ptr none))) none,
    .mk4 1 (some 3) (.mv (.c (.i 0))) none] [0]) (c82_1))⟩
def c83_0 : AC :=
  .region 0 [.mk4 0 (some 26) (.faddr 2 (.t 3)) none,
    .mk4 1 (some 27) (.loadN 2 (.t 26)) none,
    .mk4 2 (some 28) (.mv (.t 5)) none,
    .mk4 3 (some 29) (.call 92 [(.t 27), (.t 28)]) none,
    .mk4 4 (some 25) (.mv (.t 29)) none,
    .mk4 5 (some 30) (.extract (.t 25) 0) none,
    .mk4 6 (some 31) (.extract (.t 25) 1) none,
    .mk4 7 (some 32) (.faddr 2 (.t 3)) none,
    .mk4 8 none (.store 2 (.t 32) (.t 30)) none] [4, 5, 6]
def c83_1 : AC :=
  .region 1 [.mk4 0 (some 33) (.load1 (.t 4)) none,
    .mk4 1 (some 34) (.mv (.t 5)) none,
    .mk4 2 (some 35) (.mv (.t 6)) none,
    ⟨3, (some 36), .call 93 [(.t 35)], none, none, [(33, .load1 (.t 4), none)]⟩,
    .mk4 4 (some 37) (.build [.i 0, .i 0] [(0, 1, (.t 34)), (1, 1, (.t 36))]) none,
    ⟨5, (some 38), .bslice 2 1 [.i 0, .i 0] [(0, (.t 37))], none, some 0, []⟩,
    .mk4 6 (some 39) (.append 2 16 (.t 33) (.t 38)) none,
    .mk4 7 none (.store 1 (.t 4) (.t 39)) none] []
def c83_2 : AC :=
  .region 0 [.mk4 0 (some 15) (.faddr 0 (.t 3)) none,
    .mk4 1 (some 16) (.loadN 2 (.t 15)) none,
    .mk4 2 (some 17) (.mv (.t 5)) none,
    .mk4 3 (some 18) (.call 92 [(.t 16), (.t 17)]) none,
    .mk4 4 (some 14) (.mv (.t 18)) none,
    .mk4 5 (some 19) (.extract (.t 14) 0) none,
    .mk4 6 (some 20) (.extract (.t 14) 1) none,
    .mk4 7 (some 21) (.faddr 0 (.t 3)) none,
    .mk4 8 none (.store 2 (.t 21) (.t 19)) none] [3, 4, 5, 6]
def c83_3 : AC :=
  .seq (.seq (.region 0 [.mk4 0 (some 11) (.mv (.t 6)) none,
    .mk4 1 (some 12) (.bin .and (.t 11) (.c (.i 2))) none,
    .mk4 2 (some 13) (.bin .neq (.t 12) (.c (.i 0))) none] [3, 4, 5, 6, 13]) (.cond (.t 13) (c83_2) (.skip))) (.seq (.seq (.region 0 [.mk4 0 (some 22) (.mv (.t 6)) none,
    .mk4 1 (some 23) (.bin .and (.t 22) (.c (.i 4))) none,
    .mk4 2 (some 24) (.bin .neq (.t 23) (.c (.i 0))) none] [3, 4, 5, 6, 24]) (.cond (.t 24) (c83_0) (.skip))) (c83_1))
def c83_4 : AC :=
  .seq (.seq (.region 0 [.mk4 0 (some 40) (.mv (.t 0)) none,
    .mk4 1 (some 41) (.nilck (.t 40)) none,
    .mk4 2 (some 42) (.faddr 1 (.t 41)) none,
    .mk4 3 (some 43) (.load1 (.t 42)) none,
    .mk4 4 (some 44) (.bin .eql (.t 43) (.c (.i 1))) none] [3, 4, 44]) (.cond (.t 44) (.seq (.region 0 [.mk4 0 (some 45) (.loadN 4 (.t 3)) none,
    .mk4 1 (some 46) (.mkIface 180 (.t 45)) none,
    .mk4 2 (some 2) (.mv (.t 46)) none] [2]) (.ret)) (.skip))) (.seq (.region 0 [.mk4 0 (some 47) (.load1 (.t 4)) none,
    .mk4 1 (some 48) (.mkIface 182 (.t 47)) none,
    .mk4 2 (some 2) (.mv (.t 48)) none] [2]) (.ret))
def c83_5 : AC :=
  .seq (.seq (.region 0 [.mk4 0 (some 7) (.mv (.t 0)) none,
    .mk4 1 (some 8) (.call 86 [(.t 7)]) none] [0, 3, 4, 8]) (.block 0 (.rangeFunc (.t 8) [9, 10] [3, 4] (.seq (.region 0 [.mk4 0 (some 5) (.mv (.t 9)) none] [3, 4, 5, 10]) (.region 0 [.mk4 0 (some 6) (.mv (.t 10)) none] [3, 4, 5, 6])) (.block 1 (c83_3))))) (c83_4)
def c83 : AFn := ⟨1, 49, [.tmp 2],
  (.seq (.region 0 [.mk4 0 (some 2) (.mv (.c (.nili))) none] [0]) (.seq (.region 0 [.mk4 0 (some 3) (.alloc 4 [.int .u32 0, .int .u32 0, .int .u32 0, .int .u32 0]) none] [0, 3]) (.seq (.region 0 [.mk4 0 (some 4) (.alloc 1 [.nils]) none] [0, 3, 4]) (c83_5))))⟩
def c84_0 : AC :=
  .seq (.region 0 [.mk4 0 (some 107) (.mv (.t 2)) none,
    .mk4 1 (some 108) (.mv (.t 2)) none,
    .mk4 2 (some 109) (.mv (.t 0)) none,
    .mk4 3 (some 110) (.nilck (.t 109)) none,
    .mk4 4 (some 111) (.faddr 0 (.t 110)) none,
    .mk4 5 (some 112) (.load1 (.t 111)) none,
    .mk4 6 (some 113) (.ixaS 4 (.t 112) (.c (.i 0))) none,
    .mk4 7 (some 114) (.faddr 0 (.t 113)) none,
    .mk4 8 (some 115) (.load1 (.t 114)) none,
    .mk4 9 (some 116) (.minI [(.t 108), (.t 115)]) none,
    .mk4 10 (some 117) (.bin .sub (.t 107) (.t 116)) none,
    .mk4 11 (some 2) (.mv (.t 117)) none] [0, 1, 2, 3, 4]) (.seq (.region 0 [.mk4 0 (some 118) (.mv (.t 0)) none,
    .mk4 1 (some 119) (.mv (.t 1)) none,
    .mk4 2 (some 120) (.call 95 [(.t 118), (.t 119)]) none] [0, 1, 2, 3, 4, 120]) (.cond (.t 120) (.seq (.region 0 [.mk4 0 (some 10) (.mv (.c (.i 3))) none] [10]) (.ret)) (.skip)))
def c84_1 : AC :=
  .seq (.region 0 [.mk4 0 (some 84) (.mv (.t 0)) none,
    .mk4 1 (some 85) (.nilck (.t 84)) none,
    .mk4 2 (some 86) (.faddr 0 (.t 85)) none,
    .mk4 3 (some 87) (.load1 (.t 86)) none,
    .mk4 4 (some 88) (.ixaS 4 (.t 87) (.c (.i 0))) none,
    .mk4 5 (some 89) (.faddr 0 (.t 88)) none,
    .mk4 6 (some 90) (.load1 (.t 89)) none,
    .mk4 7 (some 91) (.mv (.t 2)) none,
    .mk4 8 (some 92) (.bin .sub (.t 90) (.t 91)) none,
    .mk4 9 (some 93) (.ixaS 4 (.t 87) (.c (.i 0))) none,
    .mk4 10 (some 94) (.faddr 0 (.t 93)) none,
    .mk4 11 none (.store 1 (.t 94) (.t 92)) none] [1, 2]) (.seq (.region 0 [.mk4 0 (some 95) (.mv (.t 1)) none,
    .mk4 1 (some 96) (.mv (.t 2)) none,
    .mk4 2 (some 97) (.call 96 [(.t 95), (.t 96)]) none] []) (.seq (.region 0 [.mk4 0 (some 10) (.mv (.c (.i 2))) none] [10]) (.ret)))
def c84_2 : AC :=
  .seq (.region 0 [.mk4 0 (some 71) (.mv (.t 3)) none,
    .mk4 1 (some 72) (.un .not (.t 71)) none,
    .mk4 2 (some 73) (.mv (.t 72)) none,
    .mk4 3 (some 74) (.mv (.t 0)) (some (73, true)),
    .mk4 4 (some 75) (.nilck (.t 74)) (some (73, true)),
    .mk4 5 (some 76) (.faddr 0 (.t 75)) (some (73, true)),
    .mk4 6 (some 77) (.load1 (.t 76)) (some (73, true)),
    .mk4 7 (some 78) (.ixaS 4 (.t 77) (.c (.i 0))) (some (73, true)),
    .mk4 8 (some 79) (.faddr 0 (.t 78)) (some (73, true)),
    .mk4 9 (some 80) (.load1 (.t 79)) (some (73, true)),
    .mk4 10 (some 81) (.mv (.t 2)) (some (73, true)),
    .mk4 11 (some 82) (.bin .gtr (.t 80) (.t 81)) (some (73, true)),
    .mk4 12 (some 83) (.pick (.t 73) (.t 82) (.c (.bool false))) none,
    .mk4 13 (some 70) (.mv (.t 83)) none] [0, 1, 2, 3, 4, 70]) (.cond (.t 70) (c84_1) (.skip))
def c84_3 : AC :=
  .seq (.region 0 [.mk4 0 (some 61) (.mv (.t 0)) none,
    .mk4 1 (some 62) (.nilck (.t 61)) none,
    .mk4 2 (some 63) (.faddr 0 (.t 62)) none,
    .mk4 3 (some 64) (.load1 (.t 63)) none,
    .mk4 4 (some 65) (.lenL (.t 64)) none,
    .mk4 5 (some 66) (.bin .eql (.t 65) (.c (.i 0))) none,
    .mk4 6 (some 60) (.mv (.t 66)) none] [0, 1, 2, 3, 4, 60]) (.cond (.t 60) (.seq (.region 0 [.mk4 0 (some 67) (.mv (.t 1)) none,
    .mk4 1 (some 68) (.mv (.t 2)) none,
    .mk4 2 (some 69) (.call 96 [(.t 67), (.t 68)]) none] []) (.seq (.region 0 [.mk4 0 (some 10) (.mv (.c (.i 2))) none] [10]) (.ret))) (c84_2))
def c84_4 : AC :=
  .seq (.region 0 [.mk4 0 (some 51) (.mv (.t 0)) none,
    .mk4 1 (some 52) (.nilck (.t 51)) none,
    .mk4 2 (some 53) (.faddr 0 (.t 52)) none,
    .mk4 3 (some 54) (.load1 (.t 53)) none,
    .mk4 4 (some 55) (.lenL (.t 54)) none,
    .mk4 5 (some 56) (.bin .eql (.t 55) (.c (.i 0))) none,
    .mk4 6 (some 57) (.mv (.t 56)) none,
    .mk4 7 (some 58) (.mv (.t 3)) (some (57, true)),
    .mk4 8 (some 59) (.pick (.t 57) (.t 58) (.c (.bool false))) none,
    .mk4 9 (some 50) (.mv (.t 59)) none] [0, 1, 2, 3, 4, 50]) (.cond (.t 50) (.seq (.region 0 [.mk4 0 (some 10) (.mv (.c (.i 4))) none] [10]) (.ret)) (c84_3))
def c84_5 : AC :=
  .seq (.region 0 [.mk4 0 (some 44) (.mv (.t 3)) none,
    .mk4 1 (some 45) (.un .not (.t 44)) none,
    .mk4 2 (some 46) (.mv (.t 45)) none,
    .mk4 3 (some 47) (.mv (.t 2)) (some (46, true)),
    .mk4 4 (some 48) (.bin .eql (.t 47) (.c (.int .u64 0))) (some (46, true)),
    .mk4 5 (some 49) (.pick (.t 46) (.t 48) (.c (.bool false))) none,
    .mk4 6 (some 43) (.mv (.t 49)) none] [0, 1, 2, 3, 4, 43]) (.cond (.t 43) (.seq (.region 0 [.mk4 0 (some 10) (.mv (.c (.i 2))) none] [10]) (.ret)) (c84_4))
def c84_6 : AC :=
  .seq (.region 0 [.mk4 0 (some 37) (.mv (.t 4)) none,
    .mk4 1 (some 38) (.eq .fn true (.t 37) (.c (.nilfn))) none,
    .mk4 2 (some 39) (.mv (.t 38)) none,
    .mk4 3 (some 40) (.mv (.t 4)) (some (39, true)),
    .mk4 4 (some 41) (.callb [("roundhouse/dqueue.due", [(98, 165), (104, 213)])] (.t 40) []) (some (39, true)),
    .mk4 5 (some 42) (.pick (.t 39) (.t 41) (.c (.bool false))) none,
    .mk4 6 (some 36) (.mv (.t 42)) none] [0, 1, 2, 3, 4, 36]) (.cond (.t 36) (.seq (.region 0 [.mk4 0 (some 10) (.mv (.c (.i 1))) none] [10]) (.ret)) (c84_5))
def c84_7 : AC :=
  .seq (.region 0 [.mk4 0 (some 98) (.mv (.t 1)) none,
    .mk4 1 (some 99) (.mv (.t 0)) none,
    .mk4 2 (some 100) (.nilck (.t 99)) none,
    .mk4 3 (some 101) (.faddr 0 (.t 100)) none,
    .mk4 4 (some 102) (.load1 (.t 101)) none,
    .mk4 5 (some 103) (.ixaS 4 (.t 102) (.c (.i 0))) none,
    .mk4 6 (some 104) (.faddr 0 (.t 103)) none,
    .mk4 7 (some 105) (.load1 (.t 104)) none,
    .mk4 8 (some 106) (.call 96 [(.t 98), (.t 105)]) none] [0, 1, 2, 3, 4]) (c84_0)
def c84_8 : AC :=
  .seq (.seq (.region 0 [.mk4 0 (some 17) (.mv (.t 0)) none,
    .mk4 1 (some 18) (.nilck (.t 17)) none,
    .mk4 2 (some 19) (.faddr 0 (.t 18)) none,
    .mk4 3 (some 20) (.load1 (.t 19)) none,
    .mk4 4 (some 21) (.lenL (.t 20)) none,
    .mk4 5 (some 22) (.bin .gtr (.t 21) (.c (.i 0))) none,
    .mk4 6 (some 23) (.mv (.t 22)) none,
    .mk4 7 (some 24) (.mv (.t 0)) (some (23, true)),
    .mk4 8 (some 25) (.nilck (.t 24)) (some (23, true)),
    .mk4 9 (some 26) (.faddr 0 (.t 25)) (some (23, true)),
    .mk4 10 (some 27) (.load1 (.t 26)) (some (23, true)),
    .mk4 11 (some 28) (.ixaS 4 (.t 27) (.c (.i 0))) (some (23, true)),
    .mk4 12 (some 29) (.faddr 0 (.t 28)) (some (23, true)),
    .mk4 13 (some 30) (.load1 (.t 29)) (some (23, true)),
    .mk4 14 (some 31) (.bin .eql (.t 30) (.c (.int .u64 0))) (some (23, true)),
    .mk4 15 (some 32) (.pick (.t 23) (.t 31) (.c (.bool false))) none] [0, 1, 2, 3, 4, 32]) (.cond (.t 32) (.skip) (.exit 0))) (.block 1 (.seq (.region 0 [.mk4 0 (some 33) (.mv (.t 0)) none,
    .mk4 1 (some 34) (.mv (.t 1)) none,
    .mk4 2 (some 35) (.call 95 [(.t 33), (.t 34)]) none] [0, 1, 2, 3, 4, 35]) (.cond (.t 35) (.seq (.region 0 [.mk4 0 (some 10) (.mv (.c (.i 3))) none] [10]) (.ret)) (.skip))))
def c84_9 : AC :=
  .seq (.seq (.region 0 [.mk4 0 (some 11) (.mv (.t 0)) none,
    .mk4 1 (some 12) (.eq .ptr false (.t 11) (.c (.ptr none))) none,
    .mk4 2 (some 13) (.mv (.t 12)) none,
    .mk4 3 (some 14) (.mv (.t 1)) (some (13, false)),
    .mk4 4 (some 15) (.call 94 [(.t 14)]) (some (13, false)),
    .mk4 5 (some 16) (.pick (.t 13) (.c (.bool true)) (.t 15)) none] [0, 1, 2, 3, 4, 16]) (.cond (.t 16) (.seq (.region 0 [.mk4 0 (some 10) (.mv (.c (.i 4))) none] [10]) (.ret)) (.skip))) (.seq (.block 0 (.loop [0, 1, 2, 3, 4] (c84_8))) (.block 2 (.loop [0, 1, 2, 3, 4] (.block 3 (.seq (.block 4 (c84_6)) (c84_7))))))
def c84 : AFn := ⟨5, 121, [.tmp 10],
  (.seq (.region 0 [.mk4 0 (some 10) (.mv (.c (.i 0))) none] [0, 1, 2, 3, 4]) (c84_9))⟩
def c85_0 : AC :=
  .seq (.region 0 [.mk4 0 (some 3) (.load1 (.t 0)) none,
    .mk4 1 (some 4) (.load1 (.t 1)) none,
    .mk4 2 (some 5) (.nilck (.t 4)) none,
    .mk4 3 (some 6) (.faddr 0 (.t 5)) none,
    .mk4 4 (some 7) (.load1 (.t 6)) none,
    .mk4 5 (some 8) (.mkBm "roundhouse/dpoll.holds" (.t 3)) none,
    .mk4 6 (some 9) (.nilckB "roundhouse/dpoll.holds" [(180, 254), (182, 271)] (.t 8)) none,
    .mk4 7 (some 10) (.mv (.t 3)) none,
    .mk4 8 (some 11) (.invoke [(180, 254), (182, 271)] (.t 10) [(.t 7)]) none,
    .mk4 9 (some 2) (.mv (.t 11)) none] [2]) (.ret)
def c85 : AFn := ⟨2, 12, [.tmp 2],
  (.seq (.region 0 [.mk4 0 (some 2) (.mv (.c (.bool false))) none] [0, 1]) (c85_0))⟩
def c86 : AFn := ⟨1, 4, [.tmp 2],
  (.seq (.region 0 [.mk4 0 (some 1) (.box 1 (.t 0)) none,
    .mk4 1 (some 2) (.mv (.c (.nilfn))) none] [1]) (.seq (.region 0 [.mk4 0 (some 3) (.mkClo 97 [(.t 1)]) none,
    .mk4 1 (some 2) (.mv (.t 3)) none] [2]) (.ret)))⟩
def c87_0 : AC :=
  .seq (.region 0 [.mk4 0 (some 6) (.mv (.t 0)) none,
    .mk4 1 (some 7) (.nilck (.t 6)) none,
    .mk4 2 (some 8) (.faddr 289 (.t 7)) none,
    .mk4 3 (some 9) (.load1 (.t 8)) none,
    .mk4 4 (some 10) (.call 98 [(.t 9)]) none,
    .mk4 5 (some 3) (.mv (.t 10)) none] [0, 3]) (.seq (.region 0 [.mk4 0 (some 11) (.mv (.t 0)) none,
    .mk4 1 (some 12) (.call 55 [(.t 11)]) none] [3]) (.seq (.region 0 [.mk4 0 (some 13) (.mv (.t 3)) none,
    .mk4 1 (some 2) (.mv (.t 13)) none] [2]) (.ret)))
def c87 : AFn := ⟨1, 14, [.tmp 2],
  (.seq (.region 0 [.mk4 0 (some 2) (.mv (.c (.nils))) none] [0]) (.seq (.seq (.region 0 [.mk4 0 (some 4) (.mv (.t 0)) none,
    .mk4 1 (some 5) (.call 25 [(.t 4)]) none] [0, 5]) (.cond (.t 5) (.seq (.region 0 [.mk4 0 (some 2) (.mv (.c (.nils))) none] [2]) (.ret)) (.skip))) (c87_0)))⟩
def c88_0 : AC :=
  .seq (.region 0 [.mk4 0 (some 15) (.mv (.t 0)) none,
    .mk4 1 (some 16) (.nilck (.t 15)) none,
    .mk4 2 (some 17) (.faddr 1 (.t 16)) none,
    .mk4 3 (some 18) (.load1 (.t 17)) none,
    .mk4 4 (some 19) (.bin .eql (.t 18) (.c (.i 1))) none,
    .mk4 5 (some 20) (.mv (.t 19)) none,
    .mk4 6 (some 21) (.mv (.t 1)) (some (20, true)),
    .mk4 7 (some 22) (.bin .geq (.t 21) (.c (.i 64))) (some (20, true)),
    .mk4 8 (some 23) (.pick (.t 20) (.t 22) (.c (.bool false))) none,
    .mk4 9 (some 14) (.mv (.t 23)) none] [14]) (.cond (.t 14) (.seq (.region 0 [.mk4 0 (some 4) (.mv (.c (.i 190))) none] [4]) (.ret)) (.skip))
def c88_1 : AC :=
  .seq (.region 0 [.mk4 0 (some 6) (.mv (.t 0)) none,
    .mk4 1 (some 7) (.nilck (.t 6)) none,
    .mk4 2 (some 8) (.faddr 0 (.t 7)) none,
    .mk4 3 (some 9) (.load1 (.t 8)) none,
    .mk4 4 (some 10) (.mv (.t 1)) none,
    .mk4 5 (some 11) (.call 99 [(.t 9), (.t 10)]) none,
    .mk4 6 (some 12) (.field 0 none (.t 11)) none,
    .mk4 7 (some 13) (.un .not (.t 12)) none,
    .mk4 8 (some 5) (.mv (.t 13)) none] [0, 1, 5]) (.cond (.t 5) (.seq (.region 0 [.mk4 0 (some 4) (.mv (.c (.i 110))) none] [4]) (.ret)) (c88_0))
def c88 : AFn := ⟨2, 24, [.tmp 4],
  (.seq (.region 0 [.mk4 0 (some 4) (.mv (.c (.i 0))) none] [0, 1]) (.seq (.block 0 (c88_1)) (.seq (.region 0 [.mk4 0 (some 4) (.mv (.c (.i 0))) none] [4]) (.ret))))⟩
def c89_0 : AC :=
  .seq (.region 0 [.mk4 0 (some 3) (.mv (.t 0)) none,
    .mk4 1 (some 4) (.bin .geq (.t 3) (.c (.i 0))) none,
    .mk4 2 (some 5) (.mv (.t 4)) none,
    .mk4 3 (some 6) (.mv (.t 0)) (some (5, true)),
    .mk4 4 (some 7) (.bin .leq (.t 6) (.c (.i 95))) (some (5, true)),
    .mk4 5 (some 8) (.pick (.t 5) (.t 7) (.c (.bool false))) none,
    .mk4 6 (some 2) (.mv (.t 8)) none] [2]) (.ret)
def c89 : AFn := ⟨1, 9, [.tmp 2],
  (.seq (.region 0 [.mk4 0 (some 2) (.mv (.c (.bool false))) none] [0]) (c89_0))⟩
def c90_0 : AC :=
  .seq (.region 0 [.mk4 0 (some 3) (.mv (.t 0)) none,
    .mk4 1 (some 4) (.lenL (.t 3)) none,
    .mk4 2 (some 5) (.bin .leq (.t 4) (.c (.i 2000))) none,
    .mk4 3 (some 6) (.mv (.t 5)) none,
    .mk4 4 (some 7) (.mv (.t 0)) (some (6, true)),
    .mk4 5 (some 8) (.call 100 [(.t 7), (.c (.clo 101 []))]) (some (6, true)),
    .mk4 6 (some 9) (.un .not (.t 8)) (some (6, true)),
    .mk4 7 (some 10) (.pick (.t 6) (.t 9) (.c (.bool false))) none,
    .mk4 8 (some 2) (.mv (.t 10)) none] [2]) (.ret)
def c90 : AFn := ⟨1, 11, [.tmp 2],
  (.seq (.region 0 [.mk4 0 (some 2) (.mv (.c (.bool false))) none] [0]) (c90_0))⟩
def c91_0 : AC :=
  .region 0 [.mk4 0 (some 12) (.mv (.t 3)) none,
    .mk4 1 (some 13) (.loadN 4 (.t 5)) none,
    .mk4 2 (some 14) (.call 103 [(.t 13)]) none,
    .mk4 3 (some 15) (.bslice 4 1 [.int .u64 0, .bool false, .nils, .nils] [(0, (.t 14))]) none,
    .mk4 4 (some 16) (.append 4 64 (.t 12) (.t 15)) none,
    .mk4 5 (some 3) (.mv (.t 16)) none] [3, 6, 7, 8]
def c91_1 : AC :=
  .seq (.block 1 (.seq (.region 0 [.mk4 0 (some 10) (.ixaS 4 (.t 6) (.t 8)) none,
    .mk4 1 (some 11) (.loadN 4 (.t 10)) none,
    .mk4 2 (some 5) (.alloc 4 [.int .u64 0, .bool false, .nils, .nils]) none,
    .mk4 3 none (.store 4 (.t 5) (.t 11)) none] [3, 5, 6, 7, 8]) (c91_0))) (.region 0 [.mk4 0 (some 17) (.bin .add (.t 8) (.c (.i 1))) none,
    .mk4 1 (some 8) (.mv (.t 17)) none] [3, 6, 7, 8])
def c91_2 : AC :=
  .seq (.seq (.region 0 [.mk4 0 (some 6) (.mv (.t 0)) none,
    .mk4 1 (some 7) (.lenL (.t 6)) none,
    .mk4 2 (some 8) (.mv (.c (.i 0))) none] [3, 6, 7, 8]) (.block 0 (.loop [3, 6, 7, 8] (.seq (.region 0 [.mk4 0 (some 9) (.bin .lss (.t 8) (.t 7)) none] [3, 6, 7, 8, 9]) (.seq (.cond (.t 9) (.skip) (.exit 0)) (c91_1)))))) (.seq (.region 0 [.mk4 0 (some 18) (.mv (.t 3)) none,
    .mk4 1 (some 2) (.mv (.t 18)) none] [2]) (.ret))
def c91 : AFn := ⟨1, 19, [.tmp 2],
  (.seq (.region 0 [.mk4 0 (some 2) (.mv (.c (.nils))) none] [0]) (.seq (.region 0 [.mk4 0 (some 3) (.mv (.c (.nils))) none] [0, 3]) (c91_2)))⟩
def c92_0 : AC :=
  .seq (.region 0 [.mk4 0 (some 10) (.mv (.t 1)) none,
    .mk4 1 (some 11) (.bin .quo (.t 10) (.c (.i 32))) none,
    .mk4 2 (some 12) (.ixaA 2 1 (.t 2) (.t 11)) none,
    .mk4 3 (some 13) (.load1 (.t 12)) none,
    .mk4 4 (some 14) (.mv (.t 1)) none,
    .mk4 5 (some 15) (.bin .rem (.t 14) (.c (.i 32))) none,
    .mk4 6 (some 16) (.bin .shl (.c (.int .u32 1)) (.t 15)) none,
    .mk4 7 (some 17) (.bin .or (.t 13) (.t 16)) none,
    .mk4 8 (some 18) (.ixaA 2 1 (.t 2) (.t 11)) none,
    .mk4 9 none (.store 1 (.t 18) (.t 17)) none] [2, 4]) (.seq (.region 0 [.mk4 0 (some 19) (.loadN 2 (.t 2)) none,
    .mk4 1 none (.store 2 (.t 4) (.t 19)) none,
    .mk4 2 (some 5) (.mv (.c (.i 0))) none] [4, 5]) (.ret))
def c92_1 : AC :=
  .seq (.seq (.region 0 [.mk4 0 (some 6) (.mv (.t 1)) none,
    .mk4 1 (some 7) (.call 104 [(.t 6)]) none,
    .mk4 2 (some 8) (.un .not (.t 7)) none] [1, 2, 4, 8]) (.cond (.t 8) (.seq (.region 0 [.mk4 0 (some 9) (.build [.int .u32 0, .int .u32 0] []) none,
    .mk4 1 none (.store 2 (.t 4) (.t 9)) none,
    .mk4 2 (some 5) (.mv (.c (.i 10))) none] [4, 5]) (.ret)) (.skip))) (c92_0)
def c92 : AFn := ⟨2, 20, [.cellN 4 2, .tmp 5],
  (.seq (.region 0 [.mk4 0 (some 2) (.box 2 (.t 0)) none,
    .mk4 1 (some 4) (.alloc 2 [.int .u32 0, .int .u32 0]) none,
    .mk4 2 (some 5) (.mv (.c (.i 0))) none] [1, 2, 4]) (c92_1))⟩
def c93_0 : AC :=
  .seq (.seq (.region 0 [.mk4 0 (some 9) (.mv (.t 0)) none,
    .mk4 1 (some 10) (.bin .and (.t 9) (.c (.i 4))) none,
    .mk4 2 (some 11) (.bin .neq (.t 10) (.c (.i 0))) none] [3, 11]) (.cond (.t 11) (.region 0 [.mk4 0 (some 12) (.mv (.t 3)) none,
    .mk4 1 (some 13) (.bin .or (.t 12) (.c (.i 4))) none,
    .mk4 2 (some 3) (.mv (.t 13)) none] [3]) (.skip))) (.seq (.region 0 [.mk4 0 (some 14) (.mv (.t 3)) none,
    .mk4 1 (some 2) (.mv (.t 14)) none] [2]) (.ret))
def c93_1 : AC :=
  .seq (.seq (.region 0 [.mk4 0 (some 4) (.mv (.t 0)) none,
    .mk4 1 (some 5) (.bin .and (.t 4) (.c (.i 2))) none,
    .mk4 2 (some 6) (.bin .neq (.t 5) (.c (.i 0))) none] [0, 3, 6]) (.cond (.t 6) (.region 0 [.mk4 0 (some 7) (.mv (.t 3)) none,
    .mk4 1 (some 8) (.bin .or (.t 7) (.c (.i 1))) none,
    .mk4 2 (some 3) (.mv (.t 8)) none] [0, 3]) (.skip))) (c93_0)
def c93 : AFn := ⟨1, 15, [.tmp 2],
  (.seq (.region 0 [.mk4 0 (some 2) (.mv (.c (.i 0))) none] [0]) (.seq (.region 0 [.mk4 0 (some 3) (.mv (.c (.i 0))) none] [0, 3]) (c93_1)))⟩
def c94_0 : AC :=
  .seq (.region 0 [.mk4 0 (some 6) (.mv (.t 0)) none,
    .mk4 1 (some 7) (.call 105 [(.t 6), (.c (.i (-1)))]) none,
    .mk4 2 (some 5) (.mv (.t 7)) none,
    .mk4 3 (some 8) (.extract (.t 5) 0) none,
    .mk4 4 (some 9) (.extract (.t 5) 1) none,
    .mk4 5 (some 3) (.mv (.t 8)) none,
    .mk4 6 (some 4) (.mv (.t 9)) none] [4]) (.seq (.region 0 [.mk4 0 (some 10) (.mv (.t 4)) none,
    .mk4 1 (some 11) (.bin .eql (.t 10) (.c (.i 1))) none,
    .mk4 2 (some 2) (.mv (.t 11)) none] [2]) (.ret))
def c94 : AFn := ⟨1, 12, [.tmp 2],
  (.seq (.region 0 [.mk4 0 (some 2) (.mv (.c (.bool false))) none] [0]) (c94_0))⟩
def c95_0 : AC :=
  .seq (.region 0 [.mk4 0 (some 27) (.ixaS 4 (.t 23) (.t 25)) none,
    .mk4 1 (some 28) (.loadN 4 (.t 27)) none,
    .mk4 2 (some 7) (.alloc 4 [.i 0, .i 0, .i 0, .nils]) none,
    .mk4 3 none (.store 4 (.t 7) (.t 28)) none] [0, 1, 5, 7, 23, 24, 25]) (.region 0 [.mk4 0 (some 29) (.mv (.t 1)) none,
    .mk4 1 (some 30) (.loadN 4 (.t 7)) none,
    .mk4 2 (some 31) (.call 106 [(.t 29), (.t 30)]) none] [0, 1, 5, 23, 24, 25])
def c95_1 : AC :=
  .loop [0, 1, 5, 23, 24, 25] (.seq (.region 0 [.mk4 0 (some 26) (.bin .lss (.t 25) (.t 24)) none] [0, 1, 5, 23, 24, 25, 26]) (.seq (.cond (.t 26) (.skip) (.exit 0)) (.seq (.block 1 (c95_0)) (.region 0 [.mk4 0 (some 32) (.bin .add (.t 25) (.c (.i 1))) none,
    .mk4 1 (some 25) (.mv (.t 32)) none] [0, 1, 5, 23, 24, 25]))))
def c95_2 : AC :=
  .seq (.region 0 [.mk4 0 (some 33) (.mv (.t 0)) none,
    .mk4 1 (some 34) (.faddr 2 (.t 5)) none,
    .mk4 2 (some 35) (.load1 (.t 34)) none,
    .mk4 3 (some 36) (.nilck (.t 33)) none,
    .mk4 4 (some 37) (.faddr 1 (.t 36)) none,
    .mk4 5 none (.store 1 (.t 37) (.t 35)) none] [5]) (.seq (.region 0 [.mk4 0 (some 38) (.faddr 1 (.t 5)) none,
    .mk4 1 (some 39) (.load1 (.t 38)) none,
    .mk4 2 (some 4) (.mv (.t 39)) none] [4]) (.ret))
def c95_3 : AC :=
  .seq (.region 0 [.mk4 0 (some 14) (.mv (.t 0)) none,
    .mk4 1 (some 15) (.mv (.t 0)) none,
    .mk4 2 (some 16) (.nilck (.t 15)) none,
    .mk4 3 (some 17) (.faddr 0 (.t 16)) none,
    .mk4 4 (some 18) (.load1 (.t 17)) none,
    .mk4 5 (some 19) (.slice 4 (.t 18) (some (.c (.i 1))) none none) none,
    .mk4 6 (some 20) (.nilck (.t 14)) none,
    .mk4 7 (some 21) (.faddr 0 (.t 20)) none,
    .mk4 8 none (.store 1 (.t 21) (.t 19)) none] [0, 1, 5]) (.seq (.seq (.region 0 [.mk4 0 (some 22) (.faddr 3 (.t 5)) none,
    .mk4 1 (some 23) (.load1 (.t 22)) none,
    .mk4 2 (some 24) (.lenL (.t 23)) none,
    .mk4 3 (some 25) (.mv (.c (.i 0))) none] [0, 1, 5, 23, 24, 25]) (.block 0 (c95_1))) (c95_2))
def c95_4 : AC :=
  .seq (.region 0 [.mk4 0 (some 8) (.mv (.t 0)) none,
    .mk4 1 (some 9) (.nilck (.t 8)) none,
    .mk4 2 (some 10) (.faddr 0 (.t 9)) none,
    .mk4 3 (some 11) (.load1 (.t 10)) none,
    .mk4 4 (some 12) (.ixaS 4 (.t 11) (.c (.i 0))) none,
    .mk4 5 (some 13) (.loadN 4 (.t 12)) none,
    .mk4 6 (some 5) (.alloc 4 [.int .u64 0, .bool false, .nils, .nils]) none,
    .mk4 7 none (.store 4 (.t 5) (.t 13)) none] [0, 1, 5]) (c95_3)
def c95 : AFn := ⟨2, 40, [.tmp 4],
  (.seq (.region 0 [.mk4 0 (some 4) (.mv (.c (.bool false))) none] [0, 1]) (c95_4))⟩
def c96_0 : AC :=
  .region 0 [.mk4 0 (some 7) (.mv (.t 0)) none,
    .mk4 1 (some 8) (.nilck (.t 7)) none,
    .mk4 2 (some 9) (.faddr 290 (.t 8)) none,
    .mk4 3 (some 10) (.load1 (.t 9)) none,
    .mk4 4 (some 11) (.mv (.t 1)) none,
    .mk4 5 (some 12) (.mv (.t 0)) none,
    .mk4 6 (some 13) (.nilck (.t 12)) none,
    .mk4 7 (some 14) (.faddr 290 (.t 13)) none,
    .mk4 8 (some 15) (.load1 (.t 14)) none,
    .mk4 9 (some 16) (.bin .sub (.c (.int .u64 18446744073709551615)) (.t 15)) none,
    .mk4 10 (some 17) (.minI [(.t 11), (.t 16)]) none,
    .mk4 11 (some 18) (.bin .add (.t 10) (.t 17)) none,
    .mk4 12 (some 19) (.nilck (.t 7)) none,
    .mk4 13 (some 20) (.faddr 290 (.t 19)) none,
    .mk4 14 none (.store 1 (.t 20) (.t 18)) none] []
def c96 : AFn := ⟨2, 21, [],
  (.seq (.region 0 [.mk4 0 (some 4) (.mv (.t 0)) none,
    .mk4 1 (some 5) (.call 25 [(.t 4)]) none,
    .mk4 2 (some 6) (.un .not (.t 5)) none] [0, 1, 6]) (.cond (.t 6) (c96_0) (.skip)))⟩
def c97_0 : AC :=
  .seq (.seq (.region 0 [.mk4 0 (some 22) (.mv (.t 4)) none,
    .mk4 1 (some 23) (.bin .eql (.t 22) (.c (.i 0))) none] [0, 1, 3, 4, 8, 9, 23]) (.cond (.t 23) (.exit 1) (.skip))) (.seq (.region 0 [.mk4 0 (some 24) (.mv (.t 0)) none,
    .mk4 1 (some 25) (.mv (.t 3)) none,
    .mk4 2 (some 26) (.mv (.t 4)) none,
    .mk4 3 (some 27) (.callv (.t 24) [(.t 25), (.t 26)]) none,
    .mk4 4 (some 28) (.un .not (.t 27)) none] [0, 1, 8, 9, 28]) (.cond (.t 28) (.ret) (.skip)))
def c97_1 : AC :=
  .seq (.seq (.region 0 [.mk4 0 (some 13) (.mv (.t 3)) none,
    .mk4 1 (some 14) (.bin .add (.t 13) (.c (.i 1))) none,
    .mk4 2 (some 15) (.load1 (.t 1)) none,
    .mk4 3 (some 16) (.nilck (.t 15)) none,
    .mk4 4 (some 17) (.faddr 98 (.t 16)) none,
    .mk4 5 (some 18) (.load1 (.t 17)) none,
    .mk4 6 (some 19) (.bin .eql (.t 14) (.t 18)) none] [0, 1, 3, 4, 8, 9, 19]) (.cond (.t 19) (.region 0 [.mk4 0 (some 20) (.mv (.t 4)) none,
    .mk4 1 (some 21) (.bin .or (.t 20) (.c (.i 2))) none,
    .mk4 2 (some 4) (.mv (.t 21)) none] [0, 1, 3, 4, 8, 9]) (.skip))) (c97_0)
def c97_2 : AC :=
  .seq (.block 1 (.seq (.region 0 [.mk4 0 (some 11) (.mv (.t 9)) none,
    .mk4 1 (some 12) (.ixA 96 1 none (.t 8) (.t 9)) none,
    .mk4 2 (some 3) (.mv (.t 11)) none,
    .mk4 3 (some 4) (.mv (.t 12)) none] [0, 1, 3, 4, 8, 9]) (c97_1))) (.region 0 [.mk4 0 (some 29) (.bin .add (.t 9) (.c (.i 1))) none,
    .mk4 1 (some 9) (.mv (.t 29)) none] [0, 1, 8, 9])
def c97_3 : AC :=
  .seq (.region 0 [.mk4 0 (some 5) (.load1 (.t 1)) none,
    .mk4 1 (some 6) (.nilck (.t 5)) none,
    .mk4 2 (some 7) (.faddr 2 (.t 6)) none,
    .mk4 3 (some 8) (.loadN 96 (.t 7)) none,
    .mk4 4 (some 9) (.mv (.c (.i 0))) none] [0, 1, 8, 9]) (.block 0 (.loop [0, 1, 8, 9] (.seq (.region 0 [.mk4 0 (some 10) (.bin .lss (.t 9) (.c (.i 96))) none] [0, 1, 8, 9, 10]) (.seq (.cond (.t 10) (.skip) (.exit 0)) (c97_2)))))
def c97 : AFn := ⟨2, 30, [],
  (.scope (.seq (.label 0) (c97_3)))⟩
def c98_0 : AC :=
  .region 0 [.mk4 0 (some 20) (.mv (.t 0)) none,
    .mk4 1 (some 21) (.faddr 0 (.t 6)) none,
    .mk4 2 (some 22) (.load1 (.t 21)) none,
    .mk4 3 (some 23) (.nilck (.t 20)) none,
    .mk4 4 (some 24) (.faddr 32 (.t 23)) none,
    .mk4 5 (some 25) (.ixaA 32 1 (.t 24) (.t 22)) none,
    .mk4 6 none (.store 1 (.t 25) (.c (.i 0))) none] [0, 3, 14, 15, 16]
def c98_1 : AC :=
  .seq (.block 3 (.seq (.region 0 [.mk4 0 (some 18) (.ixaS 2 (.t 14) (.t 16)) none,
    .mk4 1 (some 19) (.loadN 2 (.t 18)) none,
    .mk4 2 (some 6) (.alloc 2 [.i 0, .i 0]) none,
    .mk4 3 none (.store 2 (.t 6) (.t 19)) none] [0, 3, 6, 14, 15, 16]) (c98_0))) (.region 0 [.mk4 0 (some 26) (.bin .add (.t 16) (.c (.i 1))) none,
    .mk4 1 (some 16) (.mv (.t 26)) none] [0, 3, 14, 15, 16])
def c98_2 : AC :=
  .rangeFunc (.t 8) [9] [3] (.region 0 [.mk4 0 (some 4) (.alloc 2 [.i 0, .i 0]) none,
    .mk4 1 none (.store 2 (.t 4) (.t 9)) none] [3, 4]) (.block 1 (.region 0 [.mk4 0 (some 10) (.load1 (.t 3)) none,
    .mk4 1 (some 11) (.loadN 2 (.t 4)) none,
    .mk4 2 (some 12) (.bslice 2 1 [.i 0, .i 0] [(0, (.t 11))]) none,
    .mk4 3 (some 13) (.append 2 16 (.t 10) (.t 12)) none,
    .mk4 4 none (.store 1 (.t 3) (.t 13)) none] []))
def c98_3 : AC :=
  .seq (.seq (.region 0 [.mk4 0 (some 14) (.load1 (.t 3)) none,
    .mk4 1 (some 15) (.lenL (.t 14)) none,
    .mk4 2 (some 16) (.mv (.c (.i 0))) none] [0, 3, 14, 15, 16]) (.block 2 (.loop [0, 3, 14, 15, 16] (.seq (.region 0 [.mk4 0 (some 17) (.bin .lss (.t 16) (.t 15)) none] [0, 3, 14, 15, 16, 17]) (.seq (.cond (.t 17) (.skip) (.exit 2)) (c98_1)))))) (.seq (.region 0 [.mk4 0 (some 27) (.load1 (.t 3)) none,
    .mk4 1 (some 2) (.mv (.t 27)) none] [2]) (.ret))
def c98 : AFn := ⟨1, 28, [.tmp 2],
  (.seq (.region 0 [.mk4 0 (some 2) (.mv (.c (.nils))) none] [0]) (.seq (.region 0 [.mk4 0 (some 3) (.alloc 1 [.nils]) none] [0, 3]) (.seq (.seq (.region 0 [.mk4 0 (some 7) (.mv (.t 0)) none,
    .mk4 1 (some 8) (.call 62 [(.t 7)]) none] [0, 3, 8]) (.block 0 (c98_2))) (c98_3))))⟩
def c99_0 : AC :=
  .seq (.region 0 [.mk4 0 (some 85) (.faddr 3 (.t 8)) none,
    .mk4 1 (some 86) (.load1 (.t 85)) none,
    .mk4 2 (some 87) (.mv (.t 86)) none,
    .mk4 3 (some 88) (.faddr 4 (.t 8)) (some (87, true)),
    .mk4 4 (some 89) (.load1 (.t 88)) (some (87, true)),
    .mk4 5 (some 90) (.un .not (.t 89)) (some (87, true)),
    .mk4 6 (some 91) (.pick (.t 87) (.t 90) (.c (.bool false))) none,
    .mk4 7 (some 92) (.mv (.t 91)) none,
    .mk4 8 (some 93) (.faddr 3 (.t 10)) (some (92, true)),
    .mk4 9 (some 94) (.load1 (.t 93)) (some (92, true)),
    .mk4 10 (some 95) (.mv (.t 94)) (some (92, true)),
    .mk4 11 (some 96) (.mv (.t 6)) (some (95, false)),
    .mk4 12 (some 97) (.nilck (.t 96)) (some (95, false)),
    .mk4 13 (some 98) (.faddr 14 (.t 97)) (some (95, false)),
    .mk4 14 (some 99) (.load1 (.t 98)) (some (95, false)),
    .mk4 15 (some 100) (.pick (.t 95) (.c (.bool true)) (.t 99)) (some (92, true)),
    .mk4 16 (some 101) (.mv (.t 100)) (some (92, true)),
    .mk4 17 (some 102) (.faddr 2 (.t 9)) (some (101, false)),
    .mk4 18 (some 103) (.load1 (.t 102)) (some (101, false)),
    .mk4 19 (some 104) (.call 69 [(.t 103)]) (some (101, false)),
    .mk4 20 (some 105) (.bin .gtr (.t 104) (.c (.i 0))) (some (101, false)),
    .mk4 21 (some 106) (.pick (.t 101) (.c (.bool true)) (.t 105)) (some (92, true)),
    .mk4 22 (some 107) (.pick (.t 92) (.t 106) (.c (.bool false))) none,
    .mk4 23 (some 108) (.faddr 2 (.t 10)) none,
    .mk4 24 none (.store 1 (.t 108) (.t 107)) none] [4, 10]) (.seq (.region 0 [.mk4 0 (some 109) (.loadN 7 (.t 10)) none,
    .mk4 1 none (.store 7 (.t 4) (.t 109)) none] [4]) (.ret))
def c99_1 : AC :=
  .seq (.region 0 [.mk4 0 (some 63) (.faddr 2 (.t 8)) none,
    .mk4 1 (some 64) (.load1 (.t 63)) none,
    .mk4 2 (some 65) (.eq .ptr true (.t 64) (.c (.ptr none))) none,
    .mk4 3 (some 66) (.mv (.t 65)) none,
    .mk4 4 (some 67) (.faddr 2 (.t 8)) (some (66, true)),
    .mk4 5 (some 68) (.load1 (.t 67)) (some (66, true)),
    .mk4 6 (some 69) (.call 60 [(.t 68)]) (some (66, true)),
    .mk4 7 (some 70) (.bin .gtr (.t 69) (.c (.i 0))) (some (66, true)),
    .mk4 8 (some 71) (.mv (.t 70)) (some (66, true)),
    .mk4 9 (some 72) (.mv (.t 6)) (some (71, false)),
    .mk4 10 (some 73) (.faddr 2 (.t 5)) (some (71, false)),
    .mk4 11 (some 74) (.load1 (.t 73)) (some (71, false)),
    .mk4 12 (some 75) (.call 107 [(.t 72), (.t 74)]) (some (71, false)),
    .mk4 13 (some 76) (.pick (.t 71) (.c (.bool true)) (.t 75)) (some (66, true)),
    .mk4 14 (some 77) (.mv (.t 76)) (some (66, true)),
    .mk4 15 (some 78) (.mv (.t 6)) (some (77, false)),
    .mk4 16 (some 79) (.nilck (.t 78)) (some (77, false)),
    .mk4 17 (some 80) (.faddr 14 (.t 79)) (some (77, false)),
    .mk4 18 (some 81) (.load1 (.t 80)) (some (77, false)),
    .mk4 19 (some 82) (.pick (.t 77) (.c (.bool true)) (.t 81)) (some (66, true)),
    .mk4 20 (some 83) (.pick (.t 66) (.t 82) (.c (.bool false))) none,
    .mk4 21 (some 84) (.faddr 1 (.t 10)) none,
    .mk4 22 none (.store 1 (.t 84) (.t 83)) none] [4, 6, 8, 9, 10]) (c99_0)
def c99_2 : AC :=
  .seq (.region 0 [.mk4 0 (some 46) (.mv (.t 6)) none,
    .mk4 1 (some 47) (.nilck (.t 46)) none,
    .mk4 2 (some 48) (.faddr 16 (.t 47)) none,
    .mk4 3 (some 49) (.load1 (.t 48)) none,
    .mk4 4 (some 50) (.lenL (.t 49)) none,
    .mk4 5 (some 51) (.bin .gtr (.t 50) (.c (.i 0))) none,
    .mk4 6 (some 52) (.faddr 1 (.t 10)) none,
    .mk4 7 none (.store 1 (.t 52) (.t 51)) none] [4, 10]) (.seq (.region 0 [.mk4 0 (some 53) (.loadN 7 (.t 10)) none,
    .mk4 1 none (.store 7 (.t 4) (.t 53)) none] [4]) (.ret))
def c99_3 : AC :=
  .seq (.region 0 [.mk4 0 (some 54) (.faddr 0 (.t 9)) none,
    .mk4 1 (some 55) (.load1 (.t 54)) none,
    .mk4 2 (some 56) (.bin .eql (.t 55) (.c (.i 3))) none,
    .mk4 3 (some 57) (.mv (.t 6)) none,
    .mk4 4 (some 58) (.nilck (.t 57)) none,
    .mk4 5 (some 59) (.faddr 14 (.t 58)) none,
    .mk4 6 (some 60) (.load1 (.t 59)) none,
    .mk4 7 (some 61) (.faddr 3 (.t 10)) none,
    ⟨8, none, .store 1 (.t 61) (.t 56), none, none, [(60, .load1 (.t 59), none)]⟩,
    .mk4 9 (some 62) (.faddr 4 (.t 10)) none,
    .mk4 10 none (.store 1 (.t 62) (.t 60)) none] [4, 5, 6, 8, 9, 10]) (c99_1)
def c99_4 : AC :=
  .seq (.seq (.region 0 [.mk4 0 (some 41) (.mv (.t 6)) none,
    .mk4 1 (some 42) (.nilck (.t 41)) none,
    .mk4 2 (some 43) (.faddr 15 (.t 42)) none,
    .mk4 3 (some 44) (.load1 (.t 43)) none,
    .mk4 4 (some 45) (.bin .gtr (.t 44) (.c (.i 0))) none] [4, 5, 6, 8, 9, 10, 45]) (.cond (.t 45) (c99_2) (.skip))) (c99_3)
def c99_5 : AC :=
  .seq (.region 0 [.mk4 0 (some 36) (.faddr 5 (.t 8)) none,
    .mk4 1 (some 37) (.load1 (.t 36)) none,
    .mk4 2 (some 38) (.faddr 6 (.t 8)) none,
    .mk4 3 (some 39) (.load1 (.t 38)) none,
    .mk4 4 (some 40) (.build [.bool false, .bool false, .bool false, .bool false, .bool false, .int .u64 0, .int .u64 0] [(0, 1, (.c (.bool true))), (5, 1, (.t 37)), (6, 1, (.t 39))]) none,
    .mk4 5 (some 10) (.alloc 7 [.bool false, .bool false, .bool false, .bool false, .bool false, .int .u64 0, .int .u64 0]) none,
    .mk4 6 none (.store 7 (.t 10) (.t 40)) none] [4, 5, 6, 8, 9, 10]) (c99_4)
def c99_6 : AC :=
  .seq (.region 2 [.mk4 0 (some 21) (.mv (.t 6)) none,
    .mk4 1 (some 22) (.faddr 2 (.t 5)) none,
    .mk4 2 (some 23) (.load1 (.t 22)) none,
    .mk4 3 (some 24) (.nilck (.t 21)) none,
    .mk4 4 (some 25) (.faddr 0 (.t 24)) none,
    .mk4 5 (some 26) (.ixaA 2 7 (.t 25) (.t 23)) none,
    .mk4 6 (some 27) (.loadN 7 (.t 26)) none,
    .mk4 7 (some 28) (.mv (.t 6)) none,
    .mk4 8 (some 29) (.faddr 2 (.t 5)) none,
    .mk4 9 (some 30) (.load1 (.t 29)) none,
    .mk4 10 (some 31) (.bin .sub (.c (.i 1)) (.t 30)) none,
    .mk4 11 (some 32) (.nilck (.t 28)) none,
    .mk4 12 (some 33) (.faddr 0 (.t 32)) none,
    .mk4 13 (some 34) (.ixaA 2 7 (.t 33) (.t 31)) none,
    .mk4 14 (some 35) (.loadN 7 (.t 34)) none,
    ⟨15, (some 8), .alloc 7 [.i 0, .i 0, .ptr none, .bool false, .bool false, .int .u64 0, .int .u64 0], none, some 0, []⟩,
    ⟨16, (some 9), .alloc 7 [.i 0, .i 0, .ptr none, .bool false, .bool false, .int .u64 0, .int .u64 0], none, some 1, []⟩,
    ⟨17, none, .store 7 (.t 8) (.t 27), none, none, [(30, .load1 (.t 29), none), (35, .loadN 7 (.t 34), none)]⟩,
    .mk4 18 none (.store 7 (.t 9) (.t 35)) none] [4, 5, 6, 8, 9]) (c99_5)
def c99_7 : AC :=
  .seq (.seq (.region 0 [.mk4 0 (some 18) (.mv (.t 7)) none,
    .mk4 1 (some 19) (.bin .neq (.t 18) (.c (.i 0))) none] [4, 5, 6, 19]) (.cond (.t 19) (.seq (.region 0 [.mk4 0 (some 20) (.build [.bool false, .bool false, .bool false, .bool false, .bool false, .int .u64 0, .int .u64 0] []) none,
    .mk4 1 none (.store 7 (.t 4) (.t 20)) none] [4]) (.ret)) (.skip))) (c99_6)
def c99_8 : AC :=
  .seq (.region 0 [.mk4 0 (some 12) (.mv (.t 0)) none,
    .mk4 1 (some 13) (.mv (.t 1)) none,
    .mk4 2 (some 14) (.call 56 [(.t 12), (.t 13)]) none,
    .mk4 3 (some 11) (.mv (.t 14)) none,
    .mk4 4 (some 15) (.extract (.t 11) 0) none,
    .mk4 5 (some 16) (.extract (.t 11) 1) none,
    .mk4 6 (some 17) (.extract (.t 11) 2) none,
    .mk4 7 (some 5) (.alloc 3 [.bool false, .i 0, .i 0]) none,
    .mk4 8 none (.store 3 (.t 5) (.t 15)) none,
    .mk4 9 (some 6) (.mv (.t 16)) none,
    .mk4 10 (some 7) (.mv (.t 17)) none] [4, 5, 6, 7]) (c99_7)
def c99 : AFn := ⟨2, 110, [.cellN 4 7],
  (.seq (.region 0 [.mk4 0 (some 4) (.alloc 7 [.bool false, .bool false, .bool false, .bool false, .bool false, .int .u64 0, .int .u64 0]) none] [0, 1, 4]) (c99_8))⟩
def c100_0 : AC :=
  .seq (.region 0 [.mk4 0 (some 4) (.mv (.c (.bool false))) none] [0, 1]) (.seq (.region 0 [.mk4 0 (some 5) (.mv (.t 0)) none,
    .mk4 1 (some 6) (.mv (.t 1)) none,
    .mk4 2 (some 7) (.call 108 [(.t 5), (.t 6)]) none,
    .mk4 3 (some 8) (.bin .geq (.t 7) (.c (.i 0))) none,
    .mk4 4 (some 4) (.mv (.t 8)) none] [4]) (.ret))
def c100 : AFn := ⟨2, 9, [.tmp 4],
  (c100_0)⟩
def c101_0 : AC :=
  .seq (.region 0 [.mk4 0 (some 1) (.box 4 (.t 0)) none,
    .mk4 1 (some 2) (.mv (.c (.bool false))) none] [1]) (.seq (.region 0 [.mk4 0 (some 3) (.loadN 4 (.t 1)) none,
    .mk4 1 (some 4) (.call 102 [(.t 3)]) none,
    .mk4 2 (some 5) (.bin .neq (.t 4) (.c (.i 0))) none,
    .mk4 3 (some 2) (.mv (.t 5)) none] [2]) (.ret))
def c101 : AFn := ⟨1, 6, [.tmp 2],
  (c101_0)⟩
def c102_0 : AC :=
  .seq (.seq (.region 0 [.mk4 0 (some 4) (.faddr 3 (.t 1)) none,
    .mk4 1 (some 5) (.load1 (.t 4)) none,
    .mk4 2 (some 6) (.lenL (.t 5)) none,
    .mk4 3 (some 7) (.bin .gtr (.t 6) (.c (.i 50))) none,
    .mk4 4 (some 8) (.mv (.t 7)) none,
    .mk4 5 (some 9) (.faddr 2 (.t 1)) (some (8, false)),
    .mk4 6 (some 10) (.load1 (.t 9)) (some (8, false)),
    .mk4 7 (some 11) (.lenL (.t 10)) (some (8, false)),
    .mk4 8 (some 12) (.bin .gtr (.t 11) (.c (.i 50))) (some (8, false)),
    .mk4 9 (some 13) (.pick (.t 8) (.c (.bool true)) (.t 12)) none,
    .mk4 10 (some 14) (.mv (.t 13)) none,
    .mk4 11 (some 15) (.faddr 2 (.t 1)) (some (14, false)),
    .mk4 12 (some 16) (.load1 (.t 15)) (some (14, false)),
    .mk4 13 (some 17) (.mv (.t 3)) (some (14, false)),
    .mk4 14 (some 18) (.call 110 [(.t 16), (.t 17)]) (some (14, false)),
    .mk4 15 (some 19) (.pick (.t 14) (.c (.bool true)) (.t 18)) none,
    .mk4 16 (some 20) (.mv (.t 19)) none,
    .mk4 17 (some 21) (.faddr 3 (.t 1)) (some (20, false)),
    .mk4 18 (some 22) (.load1 (.t 21)) (some (20, false)),
    .mk4 19 (some 23) (.call 111 [(.t 22), (.c (.clo 112 []))]) (some (20, false)),
    .mk4 20 (some 24) (.pick (.t 20) (.c (.bool true)) (.t 23)) none] [24]) (.cond (.t 24) (.seq (.region 0 [.mk4 0 (some 2) (.mv (.c (.i 120))) none] [2]) (.ret)) (.skip))) (.seq (.region 0 [.mk4 0 (some 2) (.mv (.c (.i 0))) none] [2]) (.ret))
def c102 : AFn := ⟨1, 25, [.tmp 2],
  (.seq (.region 0 [.mk4 0 (some 1) (.box 4 (.t 0)) none,
    .mk4 1 (some 2) (.mv (.c (.i 0))) none] [1]) (.seq (.region 0 [.mk4 0 (some 3) (.mv (.c (.clo 109 []))) none] [1, 3]) (c102_0)))⟩
def c103_0 : AC :=
  .region 0 [.mk4 0 (some 18) (.faddr 3 (.t 1)) none,
    .mk4 1 (some 19) (.load1 (.t 18)) none,
    .mk4 2 (some 20) (.mv (.t 3)) none,
    .mk4 3 (some 21) (.faddr 3 (.t 1)) none,
    .mk4 4 (some 22) (.load1 (.t 21)) none,
    .mk4 5 (some 23) (.mv (.t 3)) none,
    .mk4 6 (some 24) (.ixaS 4 (.t 22) (.t 23)) none,
    .mk4 7 (some 25) (.faddr 3 (.t 24)) none,
    .mk4 8 (some 26) (.load1 (.t 25)) none,
    ⟨9, (some 27), .call 116 [(.t 26)], none, none, [(19, .load1 (.t 18), none)]⟩,
    .mk4 10 (some 28) (.ixaS 4 (.t 19) (.t 20)) none,
    .mk4 11 (some 29) (.faddr 3 (.t 28)) none,
    .mk4 12 none (.store 1 (.t 29) (.t 27)) none] [1, 2, 14, 15]
def c103_1 : AC :=
  .seq (.cond (.t 16) (.skip) (.exit 0)) (.seq (.block 1 (.seq (.region 0 [.mk4 0 (some 17) (.mv (.t 15)) none,
    .mk4 1 (some 3) (.mv (.t 17)) none] [1, 2, 3, 14, 15]) (c103_0))) (.region 0 [.mk4 0 (some 30) (.bin .add (.t 15) (.c (.i 1))) none,
    .mk4 1 (some 15) (.mv (.t 30)) none] [1, 2, 14, 15]))
def c103_2 : AC :=
  .seq (.seq (.region 0 [.mk4 0 (some 12) (.faddr 3 (.t 1)) none,
    .mk4 1 (some 13) (.load1 (.t 12)) none,
    .mk4 2 (some 14) (.lenL (.t 13)) none,
    .mk4 3 (some 15) (.mv (.c (.i 0))) none] [1, 2, 14, 15]) (.block 0 (.loop [1, 2, 14, 15] (.seq (.region 0 [.mk4 0 (some 16) (.bin .lss (.t 15) (.t 14)) none] [1, 2, 14, 15, 16]) (c103_1))))) (.seq (.region 0 [.mk4 0 (some 31) (.loadN 4 (.t 1)) none,
    .mk4 1 none (.store 4 (.t 2) (.t 31)) none] [2]) (.ret))
def c103_3 : AC :=
  .seq (.region 0 [.mk4 0 (some 4) (.faddr 2 (.t 1)) none,
    .mk4 1 (some 5) (.load1 (.t 4)) none,
    .mk4 3 (some 7) (.faddr 3 (.t 1)) none,
    .mk4 4 (some 8) (.load1 (.t 7)) none,
    ⟨2, (some 6), .call 114 [(.t 5)], none, none, [(8, .load1 (.t 7), none)]⟩,
    .mk4 5 (some 9) (.call 115 [(.t 8)]) none,
    .mk4 6 (some 10) (.faddr 2 (.t 1)) none,
    .mk4 7 none (.store 1 (.t 10) (.t 6)) none,
    .mk4 8 (some 11) (.faddr 3 (.t 1)) none,
    .mk4 9 none (.store 1 (.t 11) (.t 9)) none] [1, 2]) (c103_2)
def c103 : AFn := ⟨1, 32, [.cellN 2 4],
  (.seq (.region 0 [.mk4 0 (some 1) (.box 4 (.t 0)) none,
    .mk4 1 (some 2) (.alloc 4 [.int .u64 0, .bool false, .nils, .nils]) none] [1, 2]) (c103_3))⟩
def c104_0 : AC :=
  .seq (.region 0 [.mk4 0 (some 3) (.mv (.t 0)) none,
    .mk4 1 (some 4) (.bin .geq (.t 3) (.c (.i 0))) none,
    .mk4 2 (some 5) (.mv (.t 4)) none,
    .mk4 3 (some 6) (.mv (.t 0)) (some (5, true)),
    .mk4 4 (some 7) (.bin .lss (.t 6) (.c (.i 64))) (some (5, true)),
    .mk4 5 (some 8) (.pick (.t 5) (.t 7) (.c (.bool false))) none,
    .mk4 6 (some 2) (.mv (.t 8)) none] [2]) (.ret)
def c104 : AFn := ⟨1, 9, [.tmp 2],
  (.seq (.region 0 [.mk4 0 (some 2) (.mv (.c (.bool false))) none] [0]) (c104_0))⟩
def c105_0 : AC :=
  .seq (.region 0 [.mk4 0 (some 10) (.mv (.t 0)) none,
    .mk4 1 (some 11) (.mv (.t 1)) none,
    .mk4 2 (some 12) (.call 56 [(.t 10), (.t 11)]) none,
    .mk4 3 (some 9) (.mv (.t 12)) none,
    .mk4 4 (some 13) (.extract (.t 9) 0) none,
    .mk4 5 (some 14) (.extract (.t 9) 1) none,
    .mk4 6 (some 15) (.extract (.t 9) 2) none,
    .mk4 7 (some 6) (.alloc 3 [.bool false, .i 0, .i 0]) none,
    .mk4 8 none (.store 3 (.t 6) (.t 13)) none,
    .mk4 9 (some 7) (.mv (.t 14)) none,
    .mk4 10 (some 8) (.mv (.t 15)) none] [6, 8]) (.seq (.region 0 [.mk4 0 (some 16) (.faddr 1 (.t 6)) none,
    .mk4 1 (some 17) (.load1 (.t 16)) none,
    .mk4 2 (some 18) (.mv (.t 8)) none,
    .mk4 3 (some 4) (.mv (.t 17)) none,
    .mk4 4 (some 5) (.mv (.t 18)) none] [4, 5]) (.ret))
def c105 : AFn := ⟨2, 19, [.tmp 4, .tmp 5],
  (.seq (.region 0 [.mk4 0 (some 4) (.mv (.c (.i 0))) none,
    .mk4 1 (some 5) (.mv (.c (.i 0))) none] [0, 1]) (c105_0))⟩
def c106_0 : AC :=
  .seq (.region 0 [.mk4 0 (some 59) (.mv (.t 0)) none,
    .mk4 1 (some 60) (.faddr 1 (.t 3)) none,
    .mk4 2 (some 61) (.load1 (.t 60)) none,
    .mk4 3 (some 62) (.faddr 2 (.t 3)) none,
    .mk4 4 (some 63) (.load1 (.t 62)) none,
    .mk4 5 (some 64) (.call 122 [(.t 59), (.t 61), (.t 63)]) none,
    .mk4 6 (some 65) (.extract (.t 64) 0) none,
    .mk4 7 (some 66) (.extract (.t 64) 1) none,
    .mk4 8 (some 4) (.mv (.t 65)) none,
    .mk4 9 (some 5) (.mv (.t 66)) none] [4, 5]) (.ret)
def c106_1 : AC :=
  .cond (.t 51) (.seq (.region 0 [.mk4 0 (some 53) (.mv (.t 0)) none,
    .mk4 1 (some 54) (.faddr 1 (.t 3)) none,
    .mk4 2 (some 55) (.load1 (.t 54)) none,
    .mk4 3 (some 56) (.call 121 [(.t 53), (.t 55)]) none,
    .mk4 4 (some 4) (.mv (.c (.i 0))) none,
    .mk4 5 (some 5) (.mv (.t 56)) none] [4, 5]) (.ret)) (.seq (.region 0 [.mk4 0 (some 58) (.bin .eql (.t 14) (.c (.i 6))) none,
    .mk4 1 (some 57) (.mv (.t 58)) none] [0, 3, 57]) (.cond (.t 57) (c106_0) (.skip)))
def c106_2 : AC :=
  .cond (.t 45) (.seq (.region 0 [.mk4 0 (some 47) (.mv (.t 0)) none,
    .mk4 1 (some 48) (.faddr 1 (.t 3)) none,
    .mk4 2 (some 49) (.load1 (.t 48)) none,
    .mk4 3 (some 50) (.call 120 [(.t 47), (.t 49)]) none,
    .mk4 4 (some 4) (.mv (.c (.i 0))) none,
    .mk4 5 (some 5) (.mv (.t 50)) none] [4, 5]) (.ret)) (.seq (.region 0 [.mk4 0 (some 52) (.bin .eql (.t 14) (.c (.i 5))) none,
    .mk4 1 (some 51) (.mv (.t 52)) none] [0, 3, 14, 51]) (c106_1))
def c106_3 : AC :=
  .cond (.t 39) (.seq (.region 0 [.mk4 0 (some 41) (.mv (.t 0)) none,
    .mk4 1 (some 42) (.faddr 1 (.t 3)) none,
    .mk4 2 (some 43) (.load1 (.t 42)) none,
    .mk4 3 (some 44) (.call 119 [(.t 41), (.t 43)]) none,
    .mk4 4 (some 4) (.mv (.c (.i 0))) none,
    .mk4 5 (some 5) (.mv (.t 44)) none] [4, 5]) (.ret)) (.seq (.region 0 [.mk4 0 (some 46) (.bin .eql (.t 14) (.c (.i 4))) none,
    .mk4 1 (some 45) (.mv (.t 46)) none] [0, 3, 14, 45]) (c106_2))
def c106_4 : AC :=
  .seq (.region 0 [.mk4 0 (some 28) (.mv (.t 0)) none,
    .mk4 1 (some 29) (.faddr 1 (.t 3)) none,
    .mk4 2 (some 30) (.load1 (.t 29)) none,
    .mk4 3 (some 31) (.faddr 2 (.t 3)) none,
    .mk4 4 (some 32) (.load1 (.t 31)) none,
    .mk4 5 (some 33) (.call 118 [(.t 28), (.t 30), (.t 32)]) none,
    .mk4 6 (some 27) (.mv (.t 33)) none,
    .mk4 7 (some 34) (.extract (.t 27) 0) none,
    .mk4 8 (some 35) (.extract (.t 27) 1) none,
    .mk4 9 (some 6) (.mv (.t 34)) none,
    .mk4 10 (some 7) (.mv (.t 35)) none] [6, 7]) (.seq (.region 0 [.mk4 0 (some 36) (.mv (.t 6)) none,
    .mk4 1 (some 37) (.lenL (.t 36)) none,
    .mk4 2 (some 38) (.mv (.t 7)) none,
    .mk4 3 (some 4) (.mv (.t 37)) none,
    .mk4 4 (some 5) (.mv (.t 38)) none] [4, 5]) (.ret))
def c106_5 : AC :=
  .seq (.region 0 [.mk4 0 (some 17) (.mv (.t 0)) none,
    .mk4 1 (some 18) (.faddr 1 (.t 3)) none,
    .mk4 2 (some 19) (.load1 (.t 18)) none,
    .mk4 3 (some 20) (.faddr 3 (.t 3)) none,
    .mk4 4 (some 21) (.load1 (.t 20)) none,
    .mk4 5 (some 22) (.call 117 [(.t 17), (.t 19), (.t 21)]) none,
    .mk4 6 (some 23) (.extract (.t 22) 0) none,
    .mk4 7 (some 24) (.extract (.t 22) 1) none,
    .mk4 8 (some 4) (.mv (.t 23)) none,
    .mk4 9 (some 5) (.mv (.t 24)) none] [4, 5]) (.ret)
def c106_6 : AC :=
  .cond (.t 15) (c106_5) (.seq (.region 0 [.mk4 0 (some 26) (.bin .eql (.t 14) (.c (.i 2))) none,
    .mk4 1 (some 25) (.mv (.t 26)) none] [0, 3, 14, 25]) (.cond (.t 25) (c106_4) (.seq (.region 0 [.mk4 0 (some 40) (.bin .eql (.t 14) (.c (.i 3))) none,
    .mk4 1 (some 39) (.mv (.t 40)) none] [0, 3, 14, 39]) (c106_3))))
def c106_7 : AC :=
  .seq (.seq (.region 0 [.mk4 0 (some 13) (.faddr 0 (.t 3)) none,
    .mk4 1 (some 14) (.load1 (.t 13)) none] [0, 3, 14]) (.block 0 (.seq (.region 0 [.mk4 0 (some 16) (.bin .eql (.t 14) (.c (.i 1))) none,
    .mk4 1 (some 15) (.mv (.t 16)) none] [0, 3, 14, 15]) (c106_6)))) (.seq (.region 0 [.mk4 0 (some 67) (.mv (.t 0)) none,
    .mk4 1 (some 68) (.faddr 2 (.t 3)) none,
    .mk4 2 (some 69) (.load1 (.t 68)) none,
    .mk4 3 (some 70) (.call 123 [(.t 67), (.t 69)]) none,
    .mk4 4 (some 4) (.mv (.c (.i 0))) none,
    .mk4 5 (some 5) (.mv (.t 70)) none] [4, 5]) (.ret))
def c106_8 : AC :=
  .seq (.seq (.region 0 [.mk4 0 (some 10) (.loadN 4 (.t 3)) none,
    .mk4 1 (some 11) (.call 113 [(.t 10)]) none,
    .mk4 2 (some 12) (.un .not (.t 11)) none] [0, 3, 12]) (.cond (.t 12) (.seq (.region 0 [.mk4 0 (some 4) (.mv (.c (.i 0))) none,
    .mk4 1 (some 5) (.mv (.c (.i 120))) none] [4, 5]) (.ret)) (.skip))) (c106_7)
def c106_9 : AC :=
  .seq (.region 0 [.mk4 0 (some 3) (.box 4 (.t 1)) none,
    .mk4 1 (some 4) (.mv (.c (.i 0))) none,
    .mk4 2 (some 5) (.mv (.c (.i 0))) none] [0, 3]) (.seq (.seq (.region 0 [.mk4 0 (some 8) (.mv (.t 0)) none,
    .mk4 1 (some 9) (.call 94 [(.t 8)]) none] [0, 3, 9]) (.cond (.t 9) (.seq (.region 0 [.mk4 0 (some 4) (.mv (.c (.i 0))) none,
    .mk4 1 (some 5) (.mv (.c (.i 1))) none] [4, 5]) (.ret)) (.skip))) (c106_8))
def c106 : AFn := ⟨2, 71, [.tmp 4, .tmp 5],
  (c106_9)⟩
def c107_0 : AC :=
  .seq (.region 0 [.mk4 0 (some 5) (.mv (.t 0)) none,
    .mk4 1 (some 6) (.mv (.t 1)) none,
    .mk4 2 (some 7) (.bin .sub (.c (.i 1)) (.t 6)) none,
    .mk4 3 (some 8) (.nilck (.t 5)) none,
    .mk4 4 (some 9) (.faddr 0 (.t 8)) none,
    .mk4 5 (some 10) (.ixaA 2 7 (.t 9) (.t 7)) none,
    .mk4 6 (some 11) (.faddr 0 (.t 10)) none,
    .mk4 7 (some 12) (.load1 (.t 11)) none,
    .mk4 8 (some 13) (.bin .eql (.t 12) (.c (.i 3))) none,
    .mk4 9 (some 14) (.mv (.t 13)) none,
    .mk4 10 (some 15) (.mv (.t 0)) (some (14, false)),
    .mk4 11 (some 16) (.mv (.t 1)) (some (14, false)),
    .mk4 12 (some 17) (.bin .sub (.c (.i 1)) (.t 16)) (some (14, false)),
    .mk4 13 (some 18) (.nilck (.t 15)) (some (14, false)),
    .mk4 14 (some 19) (.faddr 0 (.t 18)) (some (14, false)),
    .mk4 15 (some 20) (.ixaA 2 7 (.t 19) (.t 17)) (some (14, false)),
    .mk4 16 (some 21) (.faddr 4 (.t 20)) (some (14, false)),
    .mk4 17 (some 22) (.load1 (.t 21)) (some (14, false)),
    .mk4 18 (some 23) (.pick (.t 14) (.c (.bool true)) (.t 22)) none,
    .mk4 19 (some 4) (.mv (.t 23)) none] [4]) (.ret)
def c107 : AFn := ⟨2, 24, [.tmp 4],
  (.seq (.region 0 [.mk4 0 (some 4) (.mv (.c (.bool false))) none] [0, 1]) (c107_0))⟩
def c108_0 : AC :=
  .seq (.region 0 [.mk4 0 (some 11) (.mv (.t 1)) none,
    .mk4 1 (some 12) (.mv (.t 0)) none,
    .mk4 2 (some 13) (.mv (.t 5)) none,
    .mk4 3 (some 14) (.ixaS 4 (.t 12) (.t 13)) none,
    .mk4 4 (some 15) (.loadN 4 (.t 14)) none,
    .mk4 5 (some 16) (.callv (.t 11) [(.t 15)]) none] [0, 1, 5, 7, 8, 16]) (.cond (.t 16) (.seq (.region 0 [.mk4 0 (some 17) (.mv (.t 5)) none,
    .mk4 1 (some 4) (.mv (.t 17)) none] [4]) (.ret)) (.skip))
def c108_1 : AC :=
  .seq (.region 0 [.mk4 0 (some 9) (.bin .lss (.t 8) (.t 7)) none] [0, 1, 7, 8, 9]) (.seq (.cond (.t 9) (.skip) (.exit 0)) (.seq (.block 1 (.seq (.region 0 [.mk4 0 (some 10) (.mv (.t 8)) none,
    .mk4 1 (some 5) (.mv (.t 10)) none] [0, 1, 5, 7, 8]) (c108_0))) (.region 0 [.mk4 0 (some 18) (.bin .add (.t 8) (.c (.i 1))) none,
    .mk4 1 (some 8) (.mv (.t 18)) none] [0, 1, 7, 8])))
def c108_2 : AC :=
  .seq (.region 0 [.mk4 0 (some 4) (.mv (.c (.i 0))) none] [0, 1]) (.seq (.seq (.region 0 [.mk4 0 (some 6) (.mv (.t 0)) none,
    .mk4 1 (some 7) (.lenL (.t 6)) none,
    .mk4 2 (some 8) (.mv (.c (.i 0))) none] [0, 1, 7, 8]) (.block 0 (.loop [0, 1, 7, 8] (c108_1)))) (.seq (.region 0 [.mk4 0 (some 4) (.mv (.c (.i (-1)))) none] [4]) (.ret)))
def c108 : AFn := ⟨2, 19, [.tmp 4],
  (c108_2)⟩
def c109_0 : AC :=
  .seq (.region 0 [.mk4 0 (some 3) (.mv (.t 0)) none,
    .mk4 1 (some 4) (.bin .lss (.t 3) (.c (.i 0))) none,
    .mk4 2 (some 5) (.mv (.t 4)) none,
    .mk4 3 (some 6) (.mv (.t 0)) (some (5, false)),
    .mk4 4 (some 7) (.bin .gtr (.t 6) (.c (.i 999))) (some (5, false)),
    .mk4 5 (some 8) (.pick (.t 5) (.c (.bool true)) (.t 7)) none,
    .mk4 6 (some 2) (.mv (.t 8)) none] [2]) (.ret)
def c109 : AFn := ⟨1, 9, [.tmp 2],
  (.seq (.region 0 [.mk4 0 (some 2) (.mv (.c (.bool false))) none] [0]) (c109_0))⟩
def c110_0 : AC :=
  .seq (.region 0 [.mk4 0 (some 4) (.mv (.c (.bool false))) none] [0, 1]) (.seq (.region 0 [.mk4 0 (some 5) (.mv (.t 0)) none,
    .mk4 1 (some 6) (.mv (.t 1)) none,
    .mk4 2 (some 7) (.call 124 [(.t 5), (.t 6)]) none,
    .mk4 3 (some 8) (.bin .geq (.t 7) (.c (.i 0))) none,
    .mk4 4 (some 4) (.mv (.t 8)) none] [4]) (.ret))
def c110 : AFn := ⟨2, 9, [.tmp 4],
  (c110_0)⟩
def c111_0 : AC :=
  .seq (.region 0 [.mk4 0 (some 4) (.mv (.c (.bool false))) none] [0, 1]) (.seq (.region 0 [.mk4 0 (some 5) (.mv (.t 0)) none,
    .mk4 1 (some 6) (.mv (.t 1)) none,
    .mk4 2 (some 7) (.call 125 [(.t 5), (.t 6)]) none,
    .mk4 3 (some 8) (.bin .geq (.t 7) (.c (.i 0))) none,
    .mk4 4 (some 4) (.mv (.t 8)) none] [4]) (.ret))
def c111 : AFn := ⟨2, 9, [.tmp 4],
  (c111_0)⟩
def c112_0 : AC :=
  .seq (.region 0 [.mk4 0 (some 1) (.box 4 (.t 0)) none,
    .mk4 1 (some 2) (.mv (.c (.bool false))) none] [1]) (.seq (.region 0 [.mk4 0 (some 3) (.loadN 4 (.t 1)) none,
    .mk4 1 (some 4) (.call 113 [(.t 3)]) none,
    .mk4 2 (some 5) (.un .not (.t 4)) none,
    .mk4 3 (some 2) (.mv (.t 5)) none] [2]) (.ret))
def c112 : AFn := ⟨1, 6, [.tmp 2],
  (c112_0)⟩
def c113_0 : AC :=
  .region 0 [.mk4 0 (some 24) (.mv (.t 3)) none,
    .mk4 1 (some 25) (.callv (.t 24) [(.c (.str [110]))]) none,
    .mk4 2 (some 26) (.un .not (.t 25)) none,
    .mk4 3 (some 27) (.mv (.t 26)) none,
    .mk4 4 (some 28) (.faddr 2 (.t 1)) (some (27, true)),
    .mk4 5 (some 29) (.load1 (.t 28)) (some (27, true)),
    .mk4 6 (some 30) (.bin .neq (.t 29) (.c (.i 0))) (some (27, true)),
    .mk4 7 (some 31) (.pick (.t 27) (.t 30) (.c (.bool false))) none,
    .mk4 8 (some 5) (.mv (.t 31)) none] [1, 3, 5]
def c113_1 : AC :=
  .seq (.region 0 [.mk4 0 (some 16) (.mv (.t 3)) none,
    .mk4 1 (some 17) (.callv (.t 16) [(.c (.str [119]))]) none,
    .mk4 2 (some 18) (.un .not (.t 17)) none,
    .mk4 3 (some 19) (.mv (.t 18)) none,
    .mk4 4 (some 20) (.faddr 1 (.t 1)) (some (19, true)),
    .mk4 5 (some 21) (.load1 (.t 20)) (some (19, true)),
    .mk4 6 (some 22) (.bin .neq (.t 21) (.c (.i 0))) (some (19, true)),
    .mk4 7 (some 23) (.pick (.t 19) (.t 22) (.c (.bool false))) none,
    .mk4 8 (some 5) (.mv (.t 23)) none] [1, 3, 5]) (.cond (.t 5) (.skip) (c113_0))
def c113_2 : AC :=
  .seq (.region 0 [.mk4 0 (some 10) (.faddr 1 (.t 1)) none,
    .mk4 1 (some 11) (.load1 (.t 10)) none,
    .mk4 2 (some 12) (.bin .lss (.t 11) (.c (.i 0))) none,
    .mk4 3 (some 5) (.mv (.t 12)) none] [1, 3, 5]) (.cond (.t 5) (.skip) (.seq (.region 0 [.mk4 0 (some 13) (.faddr 2 (.t 1)) none,
    .mk4 1 (some 14) (.load1 (.t 13)) none,
    .mk4 2 (some 15) (.bin .lss (.t 14) (.c (.i 0))) none,
    .mk4 3 (some 5) (.mv (.t 15)) none] [1, 3, 5]) (.cond (.t 5) (.skip) (c113_1))))
def c113_3 : AC :=
  .seq (.seq (.region 0 [.mk4 0 (some 6) (.faddr 0 (.t 1)) none,
    .mk4 1 (some 7) (.load1 (.t 6)) none,
    .mk4 2 (some 8) (.call 128 [(.t 7)]) none,
    .mk4 3 (some 9) (.bin .eql (.t 8) (.c (.str []))) none,
    .mk4 4 (some 5) (.mv (.t 9)) none] [1, 3, 5]) (.cond (.t 5) (.skip) (c113_2))) (.cond (.t 5) (.seq (.region 0 [.mk4 0 (some 2) (.mv (.c (.bool false))) none] [2]) (.ret)) (.skip))
def c113_4 : AC :=
  .seq (.region 0 [.mk4 0 (some 32) (.mv (.t 3)) none,
    .mk4 2 (some 34) (.faddr 3 (.t 1)) none,
    .mk4 3 (some 35) (.load1 (.t 34)) none,
    .mk4 4 (some 36) (.lenL (.t 35)) none,
    .mk4 5 (some 37) (.bin .gtr (.t 36) (.c (.i 0))) none,
    ⟨1, (some 33), .callv (.t 32) [(.c (.str [100]))], none, none, [(35, .load1 (.t 34), none)]⟩,
    .mk4 6 (some 38) (.eq .bool false (.t 33) (.t 37)) none,
    .mk4 7 (some 39) (.mv (.t 38)) none,
    .mk4 8 (some 40) (.faddr 3 (.t 1)) (some (39, true)),
    .mk4 9 (some 41) (.load1 (.t 40)) (some (39, true)),
    .mk4 10 (some 42) (.lenL (.t 41)) (some (39, true)),
    .mk4 11 (some 43) (.bin .leq (.t 42) (.c (.i 1000))) (some (39, true)),
    .mk4 12 (some 44) (.pick (.t 39) (.t 43) (.c (.bool false))) none,
    .mk4 13 (some 2) (.mv (.t 44)) none] [2]) (.ret)
def c113 : AFn := ⟨1, 45, [.tmp 2],
  (.seq (.region 0 [.mk4 0 (some 1) (.box 4 (.t 0)) none,
    .mk4 1 (some 2) (.mv (.c (.bool false))) none] [1]) (.seq (.region 0 [.mk4 0 (some 4) (.mkClo 126 [(.t 1)]) none,
    .mk4 1 (some 3) (.mv (.t 4)) none] [1, 3]) (.seq (.block 0 (c113_3)) (c113_4))))⟩
def c114_0 : AC :=
  .seq (.seq (.region 0 [.mk4 0 (some 3) (.mv (.t 0)) none,
    .mk4 1 (some 4) (.eq .slice false (.t 3) (.c (.nils))) none] [0, 4]) (.cond (.t 4) (.seq (.region 0 [.mk4 0 (some 2) (.mv (.c (.nils))) none] [2]) (.ret)) (.skip))) (.seq (.region 0 [.mk4 0 (some 5) (.bslice 1 0 [] []) none,
    .mk4 1 (some 6) (.mv (.t 0)) none,
    .mk4 2 (some 7) (.append 1 8 (.t 5) (.t 6)) none,
    .mk4 3 (some 2) (.mv (.t 7)) none] [2]) (.ret))
def c114 : AFn := ⟨1, 8, [.tmp 2],
  (.seq (.region 0 [.mk4 0 (some 2) (.mv (.c (.nils))) none] [0]) (c114_0))⟩
def c115_0 : AC :=
  .seq (.seq (.region 0 [.mk4 0 (some 3) (.mv (.t 0)) none,
    .mk4 1 (some 4) (.eq .slice false (.t 3) (.c (.nils))) none] [0, 4]) (.cond (.t 4) (.seq (.region 0 [.mk4 0 (some 2) (.mv (.c (.nils))) none] [2]) (.ret)) (.skip))) (.seq (.region 0 [.mk4 0 (some 5) (.bslice 4 0 [] []) none,
    .mk4 1 (some 6) (.mv (.t 0)) none,
    .mk4 2 (some 7) (.append 4 48 (.t 5) (.t 6)) none,
    .mk4 3 (some 2) (.mv (.t 7)) none] [2]) (.ret))
def c115 : AFn := ⟨1, 8, [.tmp 2],
  (.seq (.region 0 [.mk4 0 (some 2) (.mv (.c (.nils))) none] [0]) (c115_0))⟩
def c116_0 : AC :=
  .seq (.seq (.region 0 [.mk4 0 (some 3) (.mv (.t 0)) none,
    .mk4 1 (some 4) (.eq .slice false (.t 3) (.c (.nils))) none] [0, 4]) (.cond (.t 4) (.seq (.region 0 [.mk4 0 (some 2) (.mv (.c (.nils))) none] [2]) (.ret)) (.skip))) (.seq (.region 0 [.mk4 0 (some 5) (.bslice 1 0 [] []) none,
    .mk4 1 (some 6) (.mv (.t 0)) none,
    .mk4 2 (some 7) (.append 1 1 (.t 5) (.t 6)) none,
    .mk4 3 (some 2) (.mv (.t 7)) none] [2]) (.ret))
def c116 : AFn := ⟨1, 8, [.tmp 2],
  (.seq (.region 0 [.mk4 0 (some 2) (.mv (.c (.nils))) none] [0]) (c116_0))⟩
def c117_0 : AC :=
  .seq (.region 0 [.mk4 0 (some 26) (.mv (.t 8)) none,
    .mk4 1 (some 27) (.nilck (.t 26)) none,
    .mk4 2 (some 28) (.faddr 0 (.t 27)) none,
    .mk4 3 (some 29) (.ixaA 2 7 (.t 28) (.c (.i 1))) none,
    .mk4 4 (some 30) (.faddr 4 (.t 29)) none,
    .mk4 5 (some 31) (.load1 (.t 30)) none,
    .mk4 6 (some 32) (.mv (.t 31)) none,
    .mk4 7 (some 33) (.mv (.t 8)) (some (32, false)),
    .mk4 8 (some 34) (.nilck (.t 33)) (some (32, false)),
    .mk4 9 (some 35) (.faddr 0 (.t 34)) (some (32, false)),
    .mk4 10 (some 36) (.ixaA 2 7 (.t 35) (.c (.i 0))) (some (32, false)),
    .mk4 11 (some 37) (.faddr 0 (.t 36)) (some (32, false)),
    .mk4 12 (some 38) (.load1 (.t 37)) (some (32, false)),
    .mk4 13 (some 39) (.bin .eql (.t 38) (.c (.i 3))) (some (32, false)),
    .mk4 14 (some 40) (.pick (.t 32) (.c (.bool true)) (.t 39)) none,
    .mk4 15 (some 25) (.mv (.t 40)) none] [2, 8, 25]) (.cond (.t 25) (.seq (.region 0 [.mk4 0 (some 6) (.mv (.c (.i 0))) none,
    .mk4 1 (some 7) (.mv (.c (.i 114))) none] [6, 7]) (.ret)) (.skip))
def c117_1 : AC :=
  .seq (.region 0 [.mk4 0 (some 21) (.mv (.t 8)) none,
    .mk4 1 (some 22) (.nilck (.t 21)) none,
    .mk4 2 (some 23) (.faddr 14 (.t 22)) none,
    .mk4 3 (some 24) (.load1 (.t 23)) none,
    .mk4 4 (some 20) (.mv (.t 24)) none] [2, 8, 20]) (.cond (.t 20) (.seq (.region 0 [.mk4 0 (some 6) (.mv (.c (.i 0))) none,
    .mk4 1 (some 7) (.mv (.c (.i 115))) none] [6, 7]) (.ret)) (c117_0))
def c117_2 : AC :=
  .seq (.region 0 [.mk4 0 (some 17) (.mv (.t 9)) none,
    .mk4 1 (some 18) (.bin .neq (.t 17) (.c (.i 0))) none,
    .mk4 2 (some 16) (.mv (.t 18)) none] [2, 8, 9, 16]) (.cond (.t 16) (.seq (.region 0 [.mk4 0 (some 19) (.mv (.t 9)) none,
    .mk4 1 (some 6) (.mv (.c (.i 0))) none,
    .mk4 2 (some 7) (.mv (.t 19)) none] [6, 7]) (.ret)) (c117_1))
def c117_3 : AC :=
  .seq (.region 0 [.mk4 0 (some 11) (.mv (.t 0)) none,
    .mk4 1 (some 12) (.mv (.t 1)) none,
    .mk4 2 (some 13) (.call 129 [(.t 11), (.t 12)]) none,
    .mk4 3 (some 10) (.mv (.t 13)) none,
    .mk4 4 (some 14) (.extract (.t 10) 0) none,
    .mk4 5 (some 15) (.extract (.t 10) 1) none,
    .mk4 6 (some 8) (.mv (.t 14)) none,
    .mk4 7 (some 9) (.mv (.t 15)) none] [2, 8, 9]) (.seq (.block 0 (c117_2)) (.seq (.region 0 [.mk4 0 (some 41) (.mv (.t 8)) none,
    .mk4 1 (some 42) (.mv (.t 2)) none,
    .mk4 2 (some 43) (.call 61 [(.t 41), (.c (.i 1)), (.t 42)]) none,
    .mk4 3 (some 6) (.mv (.t 43)) none,
    .mk4 4 (some 7) (.mv (.c (.i 0))) none] [6, 7]) (.ret)))
def c117 : AFn := ⟨3, 44, [.tmp 6, .tmp 7],
  (.seq (.region 0 [.mk4 0 (some 6) (.mv (.c (.i 0))) none,
    .mk4 1 (some 7) (.mv (.c (.i 0))) none] [0, 1, 2]) (c117_3))⟩
def c118_0 : AC :=
  .seq (.region 0 [.mk4 0 (some 24) (.mv (.t 8)) none,
    .mk4 1 (some 25) (.nilck (.t 24)) none,
    .mk4 2 (some 26) (.faddr 14 (.t 25)) none,
    .mk4 3 (some 27) (.load1 (.t 26)) none,
    .mk4 4 (some 23) (.mv (.t 27)) none] [2, 8, 23]) (.cond (.t 23) (.seq (.region 0 [.mk4 0 (some 6) (.mv (.c (.nils))) none,
    .mk4 1 (some 7) (.mv (.c (.i 115))) none] [6, 7]) (.ret)) (.skip))
def c118_1 : AC :=
  .seq (.region 0 [.mk4 0 (some 21) (.mv (.t 2)) none,
    .mk4 1 (some 22) (.bin .lss (.t 21) (.c (.i 0))) none,
    .mk4 2 (some 20) (.mv (.t 22)) none] [2, 8, 20]) (.cond (.t 20) (.seq (.region 0 [.mk4 0 (some 6) (.mv (.c (.nils))) none,
    .mk4 1 (some 7) (.mv (.c (.i 2))) none] [6, 7]) (.ret)) (c118_0))
def c118_2 : AC :=
  .seq (.region 0 [.mk4 0 (some 17) (.mv (.t 9)) none,
    .mk4 1 (some 18) (.bin .neq (.t 17) (.c (.i 0))) none,
    .mk4 2 (some 16) (.mv (.t 18)) none] [2, 8, 9, 16]) (.cond (.t 16) (.seq (.region 0 [.mk4 0 (some 19) (.mv (.t 9)) none,
    .mk4 1 (some 6) (.mv (.c (.nils))) none,
    .mk4 2 (some 7) (.mv (.t 19)) none] [6, 7]) (.ret)) (c118_1))
def c118_3 : AC :=
  .seq (.region 0 [.mk4 0 (some 11) (.mv (.t 0)) none,
    .mk4 1 (some 12) (.mv (.t 1)) none,
    .mk4 2 (some 13) (.call 129 [(.t 11), (.t 12)]) none,
    .mk4 3 (some 10) (.mv (.t 13)) none,
    .mk4 4 (some 14) (.extract (.t 10) 0) none,
    .mk4 5 (some 15) (.extract (.t 10) 1) none,
    .mk4 6 (some 8) (.mv (.t 14)) none,
    .mk4 7 (some 9) (.mv (.t 15)) none] [2, 8, 9]) (.seq (.block 0 (c118_2)) (.seq (.region 0 [.mk4 0 (some 28) (.mv (.t 8)) none,
    .mk4 1 (some 29) (.mv (.t 2)) none,
    .mk4 2 (some 30) (.call 130 [(.t 28), (.c (.i 1)), (.t 29)]) none,
    .mk4 3 (some 6) (.mv (.t 30)) none,
    .mk4 4 (some 7) (.mv (.c (.i 0))) none] [6, 7]) (.ret)))
def c118 : AFn := ⟨3, 31, [.tmp 6, .tmp 7],
  (.seq (.region 0 [.mk4 0 (some 6) (.mv (.c (.nils))) none,
    .mk4 1 (some 7) (.mv (.c (.i 0))) none] [0, 1, 2]) (c118_3))⟩
def c119_0 : AC :=
  .seq (.seq (.region 0 [.mk4 0 (some 13) (.mv (.t 6)) none,
    .mk4 1 (some 14) (.bin .eql (.t 13) (.c (.i 0))) none] [5, 6, 14]) (.cond (.t 14) (.region 0 [.mk4 0 (some 15) (.mv (.t 5)) none,
    .mk4 1 (some 16) (.call 131 [(.t 15), (.c (.i 1))]) none] [6]) (.skip))) (.seq (.region 0 [.mk4 0 (some 17) (.mv (.t 6)) none,
    .mk4 1 (some 4) (.mv (.t 17)) none] [4]) (.ret))
def c119_1 : AC :=
  .seq (.region 0 [.mk4 0 (some 8) (.mv (.t 0)) none,
    .mk4 1 (some 9) (.mv (.t 1)) none,
    .mk4 2 (some 10) (.call 129 [(.t 8), (.t 9)]) none,
    .mk4 3 (some 7) (.mv (.t 10)) none,
    .mk4 4 (some 11) (.extract (.t 7) 0) none,
    .mk4 5 (some 12) (.extract (.t 7) 1) none,
    .mk4 6 (some 5) (.mv (.t 11)) none,
    .mk4 7 (some 6) (.mv (.t 12)) none] [5, 6]) (c119_0)
def c119 : AFn := ⟨2, 18, [.tmp 4],
  (.seq (.region 0 [.mk4 0 (some 4) (.mv (.c (.i 0))) none] [0, 1]) (c119_1))⟩
def c120_0 : AC :=
  .seq (.seq (.region 0 [.mk4 0 (some 13) (.mv (.t 6)) none,
    .mk4 1 (some 14) (.bin .eql (.t 13) (.c (.i 0))) none] [5, 6, 14]) (.cond (.t 14) (.region 0 [.mk4 0 (some 15) (.mv (.t 5)) none,
    .mk4 1 (some 16) (.call 75 [(.t 15), (.c (.i 1))]) none] [6]) (.skip))) (.seq (.region 0 [.mk4 0 (some 17) (.mv (.t 6)) none,
    .mk4 1 (some 4) (.mv (.t 17)) none] [4]) (.ret))
def c120_1 : AC :=
  .seq (.region 0 [.mk4 0 (some 8) (.mv (.t 0)) none,
    .mk4 1 (some 9) (.mv (.t 1)) none,
    .mk4 2 (some 10) (.call 129 [(.t 8), (.t 9)]) none,
    .mk4 3 (some 7) (.mv (.t 10)) none,
    .mk4 4 (some 11) (.extract (.t 7) 0) none,
    .mk4 5 (some 12) (.extract (.t 7) 1) none,
    .mk4 6 (some 5) (.mv (.t 11)) none,
    .mk4 7 (some 6) (.mv (.t 12)) none] [5, 6]) (c120_0)
def c120 : AFn := ⟨2, 18, [.tmp 4],
  (.seq (.region 0 [.mk4 0 (some 4) (.mv (.c (.i 0))) none] [0, 1]) (c120_1))⟩
def c121_0 : AC :=
  .seq (.region 0 [.mk4 0 (some 29) (.mv (.t 5)) none,
    .mk4 1 (some 30) (.mv (.t 7)) none,
    .mk4 2 (some 31) (.nilck (.t 29)) none,
    .mk4 3 (some 32) (.faddr 0 (.t 31)) none,
    .mk4 4 (some 33) (.ixaA 2 7 (.t 32) (.t 30)) none,
    .mk4 5 (some 34) (.faddr 2 (.t 33)) none,
    .mk4 6 (some 35) (.load1 (.t 34)) none,
    .mk4 7 (some 36) (.call 59 [(.t 35)]) none] [5, 7, 26]) (.region 0 [.mk4 0 (some 37) (.mv (.t 5)) none,
    .mk4 1 (some 38) (.mv (.t 7)) none,
    .mk4 2 (some 39) (.call 58 [(.t 37), (.t 38), (.c (.bool true)), (.c (.bool true))]) none] [5, 26])
def c121_1 : AC :=
  .seq (.region 0 [.mk4 0 (some 27) (.bin .lss (.t 26) (.c (.i 2))) none] [5, 26, 27]) (.seq (.cond (.t 27) (.skip) (.exit 0)) (.seq (.block 1 (.seq (.region 0 [.mk4 0 (some 28) (.mv (.t 26)) none,
    .mk4 1 (some 7) (.mv (.t 28)) none] [5, 7, 26]) (c121_0))) (.region 0 [.mk4 0 (some 40) (.bin .add (.t 26) (.c (.i 1))) none,
    .mk4 1 (some 26) (.mv (.t 40)) none] [5, 26])))
def c121_2 : AC :=
  .seq (.region 0 [.mk4 0 (some 23) (.mv (.t 5)) none,
    .mk4 1 (some 24) (.nilck (.t 23)) none,
    .mk4 2 (some 25) (.faddr 14 (.t 24)) none,
    .mk4 3 none (.store 1 (.t 25) (.c (.bool true))) none] [5]) (.seq (.seq (.region 0 [.mk4 0 (some 26) (.mv (.c (.i 0))) none] [5, 26]) (.block 0 (.loop [5, 26] (c121_1)))) (.seq (.region 0 [.mk4 0 (some 4) (.mv (.c (.i 0))) none] [4]) (.ret)))
def c121_3 : AC :=
  .seq (.seq (.region 0 [.mk4 0 (some 14) (.mv (.t 6)) none,
    .mk4 1 (some 15) (.bin .neq (.t 14) (.c (.i 0))) none,
    .mk4 2 (some 16) (.mv (.t 15)) none,
    .mk4 3 (some 17) (.mv (.t 5)) (some (16, false)),
    .mk4 4 (some 18) (.nilck (.t 17)) (some (16, false)),
    .mk4 5 (some 19) (.faddr 14 (.t 18)) (some (16, false)),
    .mk4 6 (some 20) (.load1 (.t 19)) (some (16, false)),
    .mk4 7 (some 21) (.pick (.t 16) (.c (.bool true)) (.t 20)) none] [5, 6, 21]) (.cond (.t 21) (.seq (.region 0 [.mk4 0 (some 22) (.mv (.t 6)) none,
    .mk4 1 (some 4) (.mv (.t 22)) none] [4]) (.ret)) (.skip))) (c121_2)
def c121_4 : AC :=
  .seq (.region 0 [.mk4 0 (some 9) (.mv (.t 0)) none,
    .mk4 1 (some 10) (.mv (.t 1)) none,
    .mk4 2 (some 11) (.call 129 [(.t 9), (.t 10)]) none,
    .mk4 3 (some 8) (.mv (.t 11)) none,
    .mk4 4 (some 12) (.extract (.t 8) 0) none,
    .mk4 5 (some 13) (.extract (.t 8) 1) none,
    .mk4 6 (some 5) (.mv (.t 12)) none,
    .mk4 7 (some 6) (.mv (.t 13)) none] [5, 6]) (c121_3)
def c121 : AFn := ⟨2, 41, [.tmp 4],
  (.seq (.region 0 [.mk4 0 (some 4) (.mv (.c (.i 0))) none] [0, 1]) (c121_4))⟩
def c122_0 : AC :=
  .seq (.region 0 [.mk4 0 (some 137) (.mv (.t 0)) none,
    .mk4 1 (some 138) (.nilck (.t 137)) none,
    .mk4 2 (some 139) (.faddr 288 (.t 138)) none,
    .mk4 3 (some 140) (.load1 (.t 139)) none,
    .mk4 4 (some 141) (.lenL (.t 140)) none,
    .mk4 5 (some 142) (.bin .sub (.t 141) (.c (.i 1))) none,
    .mk4 6 (some 6) (.mv (.t 142)) none,
    .mk4 7 (some 7) (.mv (.c (.i 0))) none] [6, 7]) (.ret)
def c122_1 : AC :=
  .seq (.region 0 [.mk4 0 (some 127) (.mv (.t 0)) none,
    .mk4 1 (some 128) (.mv (.t 0)) none,
    .mk4 2 (some 129) (.nilck (.t 128)) none,
    .mk4 3 (some 130) (.faddr 288 (.t 129)) none,
    .mk4 4 (some 131) (.load1 (.t 130)) none,
    .mk4 5 (some 132) (.mv (.t 8)) none,
    .mk4 6 (some 133) (.bslice 1 1 [.ptr none] [(0, (.t 132))]) none,
    .mk4 7 (some 134) (.append 1 8 (.t 131) (.t 133)) none,
    .mk4 8 (some 135) (.nilck (.t 127)) none,
    .mk4 9 (some 136) (.faddr 288 (.t 135)) none,
    .mk4 10 none (.store 1 (.t 136) (.t 134)) none] [0]) (c122_0)
def c122_2 : AC :=
  .seq (.region 0 [.mk4 0 (some 116) (.mv (.t 9)) none,
    .mk4 1 (some 117) (.nilck (.t 116)) none,
    .mk4 2 (some 118) (.faddr 0 (.t 117)) none,
    .mk4 3 (some 119) (.ixaA 2 7 (.t 118) (.c (.i 0))) none,
    .mk4 4 (some 120) (.faddr 5 (.t 119)) none,
    .mk4 5 (some 121) (.load1 (.t 120)) none,
    .mk4 6 (some 122) (.bin .add (.t 121) (.c (.int .u64 1))) none,
    .mk4 7 (some 123) (.nilck (.t 116)) none,
    .mk4 8 (some 124) (.faddr 0 (.t 123)) none,
    .mk4 9 (some 125) (.ixaA 2 7 (.t 124) (.c (.i 0))) none,
    .mk4 10 (some 126) (.faddr 5 (.t 125)) none,
    .mk4 11 none (.store 1 (.t 126) (.t 122)) none] [0, 8]) (c122_1)
def c122_3 : AC :=
  .seq (.region 1 [.mk4 0 (some 101) (.mv (.t 9)) none,
    .mk4 1 (some 102) (.mv (.t 9)) none,
    .mk4 2 (some 103) (.nilck (.t 102)) none,
    .mk4 3 (some 104) (.faddr 16 (.t 103)) none,
    .mk4 4 (some 105) (.load1 (.t 104)) none,
    .mk4 6 (some 107) (.mv (.t 0)) none,
    .mk4 7 (some 108) (.nilck (.t 107)) none,
    .mk4 8 (some 109) (.faddr 288 (.t 108)) none,
    .mk4 9 (some 110) (.load1 (.t 109)) none,
    .mk4 10 (some 111) (.lenL (.t 110)) none,
    ⟨5, (some 106), .call 114 [(.t 105)], none, none, [(110, .load1 (.t 109), none)]⟩,
    ⟨11, (some 112), .bslice 1 1 [.i 0] [(0, (.t 111))], none, some 0, []⟩,
    .mk4 12 (some 113) (.append 1 8 (.t 106) (.t 112)) none,
    .mk4 13 (some 114) (.nilck (.t 101)) none,
    .mk4 14 (some 115) (.faddr 16 (.t 114)) none,
    .mk4 15 none (.store 1 (.t 115) (.t 113)) none] [0, 8, 9]) (c122_2)
def c122_4 : AC :=
  .seq (.region 0 [.mk4 0 (some 94) (.mv (.t 0)) none,
    .mk4 1 (some 95) (.nilck (.t 94)) none,
    .mk4 2 (some 96) (.faddr 288 (.t 95)) none,
    .mk4 3 (some 97) (.load1 (.t 96)) none,
    .mk4 4 (some 98) (.mv (.t 1)) none,
    .mk4 5 (some 99) (.ixaS 1 (.t 97) (.t 98)) none,
    .mk4 6 (some 100) (.load1 (.t 99)) none,
    .mk4 7 (some 9) (.mv (.t 100)) none] [0, 8, 9]) (c122_3)
def c122_5 : AC :=
  .seq (.region 0 [.mk4 0 (some 89) (.mv (.t 8)) none,
    .mk4 1 (some 90) (.nilck (.t 89)) none,
    .mk4 2 (some 91) (.faddr 0 (.t 90)) none,
    .mk4 3 (some 92) (.ixaA 2 7 (.t 91) (.c (.i 1))) none,
    .mk4 4 (some 93) (.faddr 0 (.t 92)) none,
    .mk4 5 none (.store 1 (.t 93) (.c (.i 2))) none] [0, 1, 8]) (c122_4)
def c122_6 : AC :=
  .seq (.region 0 [.mk4 0 (some 81) (.mv (.t 0)) none,
    .mk4 1 (some 82) (.nilck (.t 81)) none,
    .mk4 2 (some 83) (.faddr 288 (.t 82)) none,
    .mk4 3 (some 84) (.load1 (.t 83)) none,
    .mk4 4 (some 85) (.lenL (.t 84)) none,
    .mk4 5 (some 86) (.bin .geq (.t 85) (.c (.i 1000))) none,
    .mk4 6 (some 80) (.mv (.t 86)) none] [0, 1, 2, 80]) (.cond (.t 80) (.seq (.region 0 [.mk4 0 (some 6) (.mv (.c (.i 0))) none,
    .mk4 1 (some 7) (.mv (.c (.i 112))) none] [6, 7]) (.ret)) (.skip))
def c122_7 : AC :=
  .seq (.region 0 [.mk4 0 (some 58) (.mv (.t 0)) none,
    .mk4 1 (some 59) (.nilck (.t 58)) none,
    .mk4 2 (some 60) (.faddr 288 (.t 59)) none,
    .mk4 3 (some 61) (.load1 (.t 60)) none,
    .mk4 4 (some 62) (.mv (.t 1)) none,
    .mk4 5 (some 63) (.ixaS 1 (.t 61) (.t 62)) none,
    .mk4 6 (some 64) (.load1 (.t 63)) none,
    .mk4 7 (some 65) (.nilck (.t 64)) none,
    .mk4 8 (some 66) (.faddr 16 (.t 65)) none,
    .mk4 9 (some 67) (.load1 (.t 66)) none,
    .mk4 10 (some 68) (.lenL (.t 67)) none,
    .mk4 11 (some 69) (.mv (.t 0)) none,
    .mk4 12 (some 70) (.nilck (.t 69)) none,
    .mk4 13 (some 71) (.faddr 288 (.t 70)) none,
    .mk4 14 (some 72) (.load1 (.t 71)) none,
    .mk4 15 (some 73) (.mv (.t 1)) none,
    .mk4 16 (some 74) (.ixaS 1 (.t 72) (.t 73)) none,
    .mk4 17 (some 75) (.load1 (.t 74)) none,
    .mk4 18 (some 76) (.nilck (.t 75)) none,
    .mk4 19 (some 77) (.faddr 15 (.t 76)) none,
    .mk4 20 (some 78) (.load1 (.t 77)) none,
    .mk4 21 (some 79) (.bin .geq (.t 68) (.t 78)) none,
    .mk4 22 (some 57) (.mv (.t 79)) none] [0, 1, 2, 57]) (.cond (.t 57) (.seq (.region 0 [.mk4 0 (some 6) (.mv (.c (.i 0))) none,
    .mk4 1 (some 7) (.mv (.c (.i 113))) none] [6, 7]) (.ret)) (c122_6))
def c122_8 : AC :=
  .seq (.region 0 [.mk4 0 (some 54) (.mv (.t 2)) none,
    .mk4 1 (some 55) (.call 26 [(.t 54)]) none,
    .mk4 2 (some 56) (.un .not (.t 55)) none,
    .mk4 3 (some 53) (.mv (.t 56)) none] [0, 1, 2, 53]) (.cond (.t 53) (.seq (.region 0 [.mk4 0 (some 6) (.mv (.c (.i 0))) none,
    .mk4 1 (some 7) (.mv (.c (.i 2))) none] [6, 7]) (.ret)) (c122_7))
def c122_9 : AC :=
  .seq (.region 0 [.mk4 0 (some 14) (.mv (.t 1)) none,
    .mk4 1 (some 15) (.bin .lss (.t 14) (.c (.i 0))) none,
    .mk4 2 (some 16) (.mv (.t 15)) none,
    .mk4 3 (some 17) (.mv (.t 1)) (some (16, false)),
    .mk4 4 (some 18) (.mv (.t 0)) (some (16, false)),
    .mk4 5 (some 19) (.nilck (.t 18)) (some (16, false)),
    .mk4 6 (some 20) (.faddr 288 (.t 19)) (some (16, false)),
    .mk4 7 (some 21) (.load1 (.t 20)) (some (16, false)),
    .mk4 8 (some 22) (.lenL (.t 21)) (some (16, false)),
    .mk4 9 (some 23) (.bin .geq (.t 17) (.t 22)) (some (16, false)),
    .mk4 10 (some 24) (.pick (.t 16) (.c (.bool true)) (.t 23)) none,
    .mk4 11 (some 25) (.mv (.t 24)) none,
    .mk4 12 (some 26) (.mv (.t 0)) (some (25, false)),
    .mk4 13 (some 27) (.nilck (.t 26)) (some (25, false)),
    .mk4 14 (some 28) (.faddr 288 (.t 27)) (some (25, false)),
    .mk4 15 (some 29) (.load1 (.t 28)) (some (25, false)),
    .mk4 16 (some 30) (.mv (.t 1)) (some (25, false)),
    .mk4 17 (some 31) (.ixaS 1 (.t 29) (.t 30)) (some (25, false)),
    .mk4 18 (some 32) (.load1 (.t 31)) (some (25, false)),
    .mk4 19 (some 33) (.nilck (.t 32)) (some (25, false)),
    .mk4 20 (some 34) (.faddr 15 (.t 33)) (some (25, false)),
    .mk4 21 (some 35) (.load1 (.t 34)) (some (25, false)),
    .mk4 22 (some 36) (.bin .eql (.t 35) (.c (.i 0))) (some (25, false)),
    .mk4 23 (some 37) (.pick (.t 25) (.c (.bool true)) (.t 36)) none,
    .mk4 24 (some 38) (.mv (.t 37)) none,
    .mk4 25 (some 39) (.mv (.t 0)) (some (38, false)),
    .mk4 26 (some 40) (.nilck (.t 39)) (some (38, false)),
    .mk4 27 (some 41) (.faddr 288 (.t 40)) (some (38, false)),
    .mk4 28 (some 42) (.load1 (.t 41)) (some (38, false)),
    .mk4 29 (some 43) (.mv (.t 1)) (some (38, false)),
    .mk4 30 (some 44) (.ixaS 1 (.t 42) (.t 43)) (some (38, false)),
    .mk4 31 (some 45) (.load1 (.t 44)) (some (38, false)),
    .mk4 32 (some 46) (.nilck (.t 45)) (some (38, false)),
    .mk4 33 (some 47) (.faddr 0 (.t 46)) (some (38, false)),
    .mk4 34 (some 48) (.ixaA 2 7 (.t 47) (.c (.i 0))) (some (38, false)),
    .mk4 35 (some 49) (.faddr 0 (.t 48)) (some (38, false)),
    .mk4 36 (some 50) (.load1 (.t 49)) (some (38, false)),
    .mk4 37 (some 51) (.bin .neq (.t 50) (.c (.i 1))) (some (38, false)),
    .mk4 38 (some 52) (.pick (.t 38) (.c (.bool true)) (.t 51)) none,
    .mk4 39 (some 13) (.mv (.t 52)) none] [0, 1, 2, 13]) (.cond (.t 13) (.seq (.region 0 [.mk4 0 (some 6) (.mv (.c (.i 0))) none,
    .mk4 1 (some 7) (.mv (.c (.i 116))) none] [6, 7]) (.ret)) (c122_8))
def c122_10 : AC :=
  .seq (.block 0 (.seq (.region 0 [.mk4 0 (some 11) (.mv (.t 0)) none,
    .mk4 1 (some 12) (.call 25 [(.t 11)]) none,
    .mk4 2 (some 10) (.mv (.t 12)) none] [0, 1, 2, 10]) (.cond (.t 10) (.seq (.region 0 [.mk4 0 (some 6) (.mv (.c (.i 0))) none,
    .mk4 1 (some 7) (.mv (.c (.i 1))) none] [6, 7]) (.ret)) (c122_9)))) (.seq (.region 0 [.mk4 0 (some 87) (.mv (.t 2)) none,
    .mk4 1 (some 88) (.call 19 [(.t 87)]) none,
    .mk4 2 (some 8) (.mv (.t 88)) none] [0, 1, 8]) (c122_5))
def c122 : AFn := ⟨3, 143, [.tmp 6, .tmp 7],
  (.seq (.region 0 [.mk4 0 (some 6) (.mv (.c (.i 0))) none,
    .mk4 1 (some 7) (.mv (.c (.i 0))) none] [0, 1, 2]) (c122_10))⟩
def c123_0 : AC :=
  .seq (.region 0 [.mk4 0 (some 8) (.mv (.t 0)) none,
    .mk4 1 (some 9) (.nilck (.t 8)) none,
    .mk4 2 (some 10) (.faddr 289 (.t 9)) none,
    .mk4 3 (some 11) (.load1 (.t 10)) none,
    .mk4 4 (some 12) (.mv (.t 1)) none,
    .mk4 5 (some 13) (.call 132 [(.t 11), (.t 12)]) none,
    .mk4 6 (some 5) (.mv (.t 13)) none] [0, 5]) (.seq (.region 0 [.mk4 0 (some 14) (.mv (.t 0)) none,
    .mk4 1 (some 15) (.call 55 [(.t 14)]) none] [5]) (.seq (.region 0 [.mk4 0 (some 16) (.mv (.t 5)) none,
    .mk4 1 (some 4) (.mv (.t 16)) none] [4]) (.ret)))
def c123 : AFn := ⟨2, 17, [.tmp 4],
  (.seq (.region 0 [.mk4 0 (some 4) (.mv (.c (.i 0))) none] [0, 1]) (.seq (.seq (.region 0 [.mk4 0 (some 6) (.mv (.t 0)) none,
    .mk4 1 (some 7) (.call 25 [(.t 6)]) none] [0, 1, 7]) (.cond (.t 7) (.seq (.region 0 [.mk4 0 (some 4) (.mv (.c (.i 1))) none] [4]) (.ret)) (.skip))) (c123_0)))⟩
def c124_0 : AC :=
  .seq (.region 0 [.mk4 0 (some 11) (.mv (.t 1)) none,
    .mk4 1 (some 12) (.mv (.t 0)) none,
    .mk4 2 (some 13) (.mv (.t 5)) none,
    .mk4 3 (some 14) (.ixaS 1 (.t 12) (.t 13)) none,
    .mk4 4 (some 15) (.load1 (.t 14)) none,
    .mk4 5 (some 16) (.callv (.t 11) [(.t 15)]) none] [0, 1, 5, 7, 8, 16]) (.cond (.t 16) (.seq (.region 0 [.mk4 0 (some 17) (.mv (.t 5)) none,
    .mk4 1 (some 4) (.mv (.t 17)) none] [4]) (.ret)) (.skip))
def c124_1 : AC :=
  .seq (.region 0 [.mk4 0 (some 9) (.bin .lss (.t 8) (.t 7)) none] [0, 1, 7, 8, 9]) (.seq (.cond (.t 9) (.skip) (.exit 0)) (.seq (.block 1 (.seq (.region 0 [.mk4 0 (some 10) (.mv (.t 8)) none,
    .mk4 1 (some 5) (.mv (.t 10)) none] [0, 1, 5, 7, 8]) (c124_0))) (.region 0 [.mk4 0 (some 18) (.bin .add (.t 8) (.c (.i 1))) none,
    .mk4 1 (some 8) (.mv (.t 18)) none] [0, 1, 7, 8])))
def c124_2 : AC :=
  .seq (.region 0 [.mk4 0 (some 4) (.mv (.c (.i 0))) none] [0, 1]) (.seq (.seq (.region 0 [.mk4 0 (some 6) (.mv (.t 0)) none,
    .mk4 1 (some 7) (.lenL (.t 6)) none,
    .mk4 2 (some 8) (.mv (.c (.i 0))) none] [0, 1, 7, 8]) (.block 0 (.loop [0, 1, 7, 8] (c124_1)))) (.seq (.region 0 [.mk4 0 (some 4) (.mv (.c (.i (-1)))) none] [4]) (.ret)))
def c124 : AFn := ⟨2, 19, [.tmp 4],
  (c124_2)⟩
def c125_0 : AC :=
  .seq (.region 0 [.mk4 0 (some 11) (.mv (.t 1)) none,
    .mk4 1 (some 12) (.mv (.t 0)) none,
    .mk4 2 (some 13) (.mv (.t 5)) none,
    .mk4 3 (some 14) (.ixaS 4 (.t 12) (.t 13)) none,
    .mk4 4 (some 15) (.loadN 4 (.t 14)) none,
    .mk4 5 (some 16) (.callv (.t 11) [(.t 15)]) none] [0, 1, 5, 7, 8, 16]) (.cond (.t 16) (.seq (.region 0 [.mk4 0 (some 17) (.mv (.t 5)) none,
    .mk4 1 (some 4) (.mv (.t 17)) none] [4]) (.ret)) (.skip))
def c125_1 : AC :=
  .seq (.region 0 [.mk4 0 (some 9) (.bin .lss (.t 8) (.t 7)) none] [0, 1, 7, 8, 9]) (.seq (.cond (.t 9) (.skip) (.exit 0)) (.seq (.block 1 (.seq (.region 0 [.mk4 0 (some 10) (.mv (.t 8)) none,
    .mk4 1 (some 5) (.mv (.t 10)) none] [0, 1, 5, 7, 8]) (c125_0))) (.region 0 [.mk4 0 (some 18) (.bin .add (.t 8) (.c (.i 1))) none,
    .mk4 1 (some 8) (.mv (.t 18)) none] [0, 1, 7, 8])))
def c125_2 : AC :=
  .seq (.region 0 [.mk4 0 (some 4) (.mv (.c (.i 0))) none] [0, 1]) (.seq (.seq (.region 0 [.mk4 0 (some 6) (.mv (.t 0)) none,
    .mk4 1 (some 7) (.lenL (.t 6)) none,
    .mk4 2 (some 8) (.mv (.c (.i 0))) none] [0, 1, 7, 8]) (.block 0 (.loop [0, 1, 7, 8] (c125_1)))) (.seq (.region 0 [.mk4 0 (some 4) (.mv (.c (.i (-1)))) none] [4]) (.ret)))
def c125 : AFn := ⟨2, 19, [.tmp 4],
  (c125_2)⟩
def c126_0 : AC :=
  .seq (.region 0 [.mk4 0 (some 3) (.mv (.c (.bool false))) none] [0, 1]) (.seq (.region 0 [.mk4 0 (some 4) (.faddr 0 (.t 1)) none,
    .mk4 1 (some 5) (.load1 (.t 4)) none,
    .mk4 2 (some 6) (.call 128 [(.t 5)]) none,
    .mk4 3 (some 7) (.mv (.t 0)) none,
    .mk4 4 (some 8) (.call 127 [(.t 6), (.t 7)]) none,
    .mk4 5 (some 3) (.mv (.t 8)) none] [3]) (.ret))
def c126 : AFn := ⟨2, 9, [.tmp 3],
  (c126_0)⟩
def c127_0 : AC :=
  .seq (.region 0 [.mk4 0 (some 4) (.mv (.c (.bool false))) none] [0, 1]) (.seq (.region 0 [.mk4 0 (some 5) (.mv (.t 0)) none,
    .mk4 1 (some 6) (.mv (.t 1)) none,
    .mk4 2 (some 7) (.call 133 [(.t 5), (.t 6)]) none,
    .mk4 3 (some 8) (.bin .geq (.t 7) (.c (.i 0))) none,
    .mk4 4 (some 4) (.mv (.t 8)) none] [4]) (.ret))
def c127 : AFn := ⟨2, 9, [.tmp 4],
  (c127_0)⟩
def c128_0 : AC :=
  .cond (.t 9) (.seq (.region 0 [.mk4 0 (some 2) (.mv (.c (.str [119]))) none] [2]) (.ret)) (.seq (.region 0 [.mk4 0 (some 14) (.bin .eql (.t 3) (.c (.i 7))) none,
    .mk4 1 (some 13) (.mv (.t 14)) none] [13]) (.cond (.t 13) (.seq (.region 0 [.mk4 0 (some 2) (.mv (.c (.str [110]))) none] [2]) (.ret)) (.skip)))
def c128_1 : AC :=
  .seq (.seq (.region 0 [.mk4 0 (some 10) (.bin .eql (.t 3) (.c (.i 3))) none,
    .mk4 1 (some 9) (.mv (.t 10)) none] [3, 9]) (.cond (.t 9) (.skip) (.seq (.region 0 [.mk4 0 (some 11) (.bin .eql (.t 3) (.c (.i 4))) none,
    .mk4 1 (some 9) (.mv (.t 11)) none] [3, 9]) (.cond (.t 9) (.skip) (.region 0 [.mk4 0 (some 12) (.bin .eql (.t 3) (.c (.i 5))) none,
    .mk4 1 (some 9) (.mv (.t 12)) none] [3, 9]))))) (c128_0)
def c128_2 : AC :=
  .seq (.seq (.region 0 [.mk4 0 (some 7) (.bin .eql (.t 3) (.c (.i 2))) none,
    .mk4 1 (some 6) (.mv (.t 7)) none] [3, 6]) (.cond (.t 6) (.skip) (.region 0 [.mk4 0 (some 8) (.bin .eql (.t 3) (.c (.i 6))) none,
    .mk4 1 (some 6) (.mv (.t 8)) none] [3, 6]))) (.cond (.t 6) (.seq (.region 0 [.mk4 0 (some 2) (.mv (.c (.str [119, 110]))) none] [2]) (.ret)) (c128_1))
def c128_3 : AC :=
  .seq (.seq (.region 0 [.mk4 0 (some 3) (.mv (.t 0)) none] [3]) (.block 0 (.seq (.region 0 [.mk4 0 (some 5) (.bin .eql (.t 3) (.c (.i 1))) none,
    .mk4 1 (some 4) (.mv (.t 5)) none] [3, 4]) (.cond (.t 4) (.seq (.region 0 [.mk4 0 (some 2) (.mv (.c (.str [119, 100]))) none] [2]) (.ret)) (c128_2))))) (.seq (.region 0 [.mk4 0 (some 2) (.mv (.c (.str []))) none] [2]) (.ret))
def c128 : AFn := ⟨1, 15, [.tmp 2],
  (.seq (.region 0 [.mk4 0 (some 2) (.mv (.c (.str []))) none] [0]) (c128_3))⟩
def c129_0 : AC :=
  .seq (.region 0 [.mk4 0 (some 10) (.mv (.t 1)) none,
    .mk4 1 (some 11) (.bin .lss (.t 10) (.c (.i 0))) none,
    .mk4 2 (some 12) (.mv (.t 11)) none,
    .mk4 3 (some 13) (.mv (.t 1)) (some (12, false)),
    .mk4 4 (some 14) (.mv (.t 0)) (some (12, false)),
    .mk4 5 (some 15) (.nilck (.t 14)) (some (12, false)),
    .mk4 6 (some 16) (.faddr 288 (.t 15)) (some (12, false)),
    .mk4 7 (some 17) (.load1 (.t 16)) (some (12, false)),
    .mk4 8 (some 18) (.lenL (.t 17)) (some (12, false)),
    .mk4 9 (some 19) (.bin .geq (.t 13) (.t 18)) (some (12, false)),
    .mk4 10 (some 20) (.pick (.t 12) (.c (.bool true)) (.t 19)) none,
    .mk4 11 (some 21) (.mv (.t 20)) none,
    .mk4 12 (some 22) (.mv (.t 0)) (some (21, false)),
    .mk4 13 (some 23) (.nilck (.t 22)) (some (21, false)),
    .mk4 14 (some 24) (.faddr 288 (.t 23)) (some (21, false)),
    .mk4 15 (some 25) (.load1 (.t 24)) (some (21, false)),
    .mk4 16 (some 26) (.mv (.t 1)) (some (21, false)),
    .mk4 17 (some 27) (.ixaS 1 (.t 25) (.t 26)) (some (21, false)),
    .mk4 18 (some 28) (.load1 (.t 27)) (some (21, false)),
    .mk4 19 (some 29) (.nilck (.t 28)) (some (21, false)),
    .mk4 20 (some 30) (.faddr 0 (.t 29)) (some (21, false)),
    .mk4 21 (some 31) (.ixaA 2 7 (.t 30) (.c (.i 1))) (some (21, false)),
    .mk4 22 (some 32) (.faddr 0 (.t 31)) (some (21, false)),
    .mk4 23 (some 33) (.load1 (.t 32)) (some (21, false)),
    .mk4 24 (some 34) (.bin .neq (.t 33) (.c (.i 2))) (some (21, false)),
    .mk4 25 (some 35) (.pick (.t 21) (.c (.bool true)) (.t 34)) none,
    .mk4 26 (some 9) (.mv (.t 35)) none] [0, 1, 9]) (.cond (.t 9) (.seq (.region 0 [.mk4 0 (some 4) (.mv (.c (.ptr none))) none,
    .mk4 1 (some 5) (.mv (.c (.i 116))) none] [4, 5]) (.ret)) (.skip))
def c129_1 : AC :=
  .seq (.region 0 [.mk4 0 (some 36) (.mv (.t 0)) none,
    .mk4 1 (some 37) (.nilck (.t 36)) none,
    .mk4 2 (some 38) (.faddr 288 (.t 37)) none,
    .mk4 3 (some 39) (.load1 (.t 38)) none,
    .mk4 4 (some 40) (.mv (.t 1)) none,
    .mk4 5 (some 41) (.ixaS 1 (.t 39) (.t 40)) none,
    .mk4 6 (some 42) (.load1 (.t 41)) none,
    .mk4 7 (some 4) (.mv (.t 42)) none,
    .mk4 8 (some 5) (.mv (.c (.i 0))) none] [4, 5]) (.ret)
def c129_2 : AC :=
  .seq (.block 0 (.seq (.region 0 [.mk4 0 (some 7) (.mv (.t 0)) none,
    .mk4 1 (some 8) (.call 25 [(.t 7)]) none,
    .mk4 2 (some 6) (.mv (.t 8)) none] [0, 1, 6]) (.cond (.t 6) (.seq (.region 0 [.mk4 0 (some 4) (.mv (.c (.ptr none))) none,
    .mk4 1 (some 5) (.mv (.c (.i 1))) none] [4, 5]) (.ret)) (c129_0)))) (c129_1)
def c129 : AFn := ⟨2, 43, [.tmp 4, .tmp 5],
  (.seq (.region 0 [.mk4 0 (some 4) (.mv (.c (.ptr none))) none,
    .mk4 1 (some 5) (.mv (.c (.i 0))) none] [0, 1]) (c129_2))⟩
def c130_0 : AC :=
  .seq (.region 0 [.mk4 0 (some 17) (.mv (.t 0)) none,
    .mk4 1 (some 18) (.mv (.t 1)) none,
    .mk4 2 (some 19) (.bin .sub (.c (.i 1)) (.t 18)) none,
    .mk4 3 (some 20) (.mv (.t 7)) none,
    .mk4 4 (some 21) (.lenL (.t 20)) none,
    .mk4 5 (some 22) (.bin .gtr (.t 21) (.c (.i 0))) none,
    .mk4 6 (some 23) (.call 58 [(.t 17), (.t 19), (.c (.bool false)), (.t 22)]) none] [7]) (.seq (.region 0 [.mk4 0 (some 24) (.mv (.t 7)) none,
    .mk4 1 (some 6) (.mv (.t 24)) none] [6]) (.ret))
def c130_1 : AC :=
  .seq (.region 0 [.mk4 0 (some 8) (.mv (.t 0)) none,
    .mk4 1 (some 9) (.mv (.t 1)) none,
    .mk4 2 (some 10) (.nilck (.t 8)) none,
    .mk4 3 (some 11) (.faddr 0 (.t 10)) none,
    .mk4 4 (some 12) (.ixaA 2 7 (.t 11) (.t 9)) none,
    .mk4 5 (some 13) (.faddr 2 (.t 12)) none,
    .mk4 6 (some 14) (.load1 (.t 13)) none,
    .mk4 7 (some 15) (.mv (.t 2)) none,
    .mk4 8 (some 16) (.call 63 [(.t 14), (.t 15)]) none,
    .mk4 9 (some 7) (.mv (.t 16)) none] [0, 1, 7]) (c130_0)
def c130 : AFn := ⟨3, 25, [.tmp 6],
  (.seq (.region 0 [.mk4 0 (some 6) (.mv (.c (.nils))) none] [0, 1, 2]) (c130_1))⟩
def c131_0 : AC :=
  .seq (.region 0 [.mk4 0 (some 12) (.mv (.t 0)) none,
    .mk4 1 (some 13) (.mv (.t 1)) none,
    .mk4 2 (some 14) (.nilck (.t 12)) none,
    .mk4 3 (some 15) (.faddr 0 (.t 14)) none,
    .mk4 4 (some 16) (.ixaA 2 7 (.t 15) (.t 13)) none,
    .mk4 5 (some 17) (.faddr 4 (.t 16)) none,
    .mk4 6 none (.store 1 (.t 17) (.c (.bool true))) none] [0, 1]) (.region 0 [.mk4 0 (some 18) (.mv (.t 0)) none,
    .mk4 1 (some 19) (.mv (.t 1)) none,
    .mk4 2 (some 20) (.bin .sub (.c (.i 1)) (.t 19)) none,
    .mk4 3 (some 21) (.call 58 [(.t 18), (.t 20), (.c (.bool true)), (.c (.bool false))]) none] [])
def c131_1 : AC :=
  .seq (.region 0 [.mk4 0 (some 4) (.mv (.t 0)) none,
    .mk4 1 (some 5) (.mv (.t 1)) none,
    .mk4 2 (some 6) (.nilck (.t 4)) none,
    .mk4 3 (some 7) (.faddr 0 (.t 6)) none,
    .mk4 4 (some 8) (.ixaA 2 7 (.t 7) (.t 5)) none,
    .mk4 5 (some 9) (.faddr 4 (.t 8)) none,
    .mk4 6 (some 10) (.load1 (.t 9)) none,
    .mk4 7 (some 11) (.un .not (.t 10)) none] [0, 1, 11]) (.cond (.t 11) (c131_0) (.skip))
def c131 : AFn := ⟨2, 22, [],
  (c131_1)⟩
def c132_0 : AC :=
  .region 0 [.mk4 0 (some 18) (.mv (.t 0)) none,
    .mk4 1 (some 19) (.mv (.t 1)) none,
    .mk4 2 (some 20) (.nilck (.t 18)) none,
    .mk4 3 (some 21) (.faddr 32 (.t 20)) none,
    .mk4 4 (some 22) (.ixaA 32 1 (.t 21) (.t 19)) none,
    .mk4 5 (some 23) (.load1 (.t 22)) none,
    .mk4 6 (some 24) (.mv (.t 0)) none,
    .mk4 7 (some 25) (.mv (.t 1)) none,
    .mk4 8 (some 26) (.nilck (.t 24)) none,
    .mk4 9 (some 27) (.faddr 32 (.t 26)) none,
    .mk4 10 (some 28) (.ixaA 32 1 (.t 27) (.t 25)) none,
    .mk4 11 (some 29) (.load1 (.t 28)) none,
    .mk4 12 (some 30) (.bin .sub (.c (.i 2147483647)) (.t 29)) none,
    .mk4 13 (some 31) (.minI [(.c (.i 1)), (.t 30)]) none,
    .mk4 14 (some 32) (.bin .add (.t 23) (.t 31)) none,
    .mk4 15 (some 33) (.nilck (.t 18)) none,
    .mk4 16 (some 34) (.faddr 32 (.t 33)) none,
    .mk4 17 (some 35) (.ixaA 32 1 (.t 34) (.t 19)) none,
    .mk4 18 none (.store 1 (.t 35) (.t 32)) none] []
def c132_1 : AC :=
  .seq (.seq (.region 0 [.mk4 0 (some 12) (.mv (.t 0)) none,
    .mk4 1 (some 13) (.mv (.t 1)) none,
    .mk4 2 (some 14) (.nilck (.t 12)) none,
    .mk4 3 (some 15) (.faddr 0 (.t 14)) none,
    .mk4 4 (some 16) (.ixaA 32 1 (.t 15) (.t 13)) none,
    .mk4 5 (some 17) (.load1 (.t 16)) none] [0, 1, 17]) (.cond (.t 17) (c132_0) (.skip))) (.seq (.region 0 [.mk4 0 (some 4) (.mv (.c (.i 0))) none] [4]) (.ret))
def c132_2 : AC :=
  .seq (.seq (.region 0 [.mk4 0 (some 6) (.mv (.t 0)) none,
    .mk4 1 (some 7) (.mv (.t 1)) none,
    .mk4 2 (some 8) (.call 71 [(.t 6), (.t 7)]) none,
    .mk4 3 (some 5) (.mv (.t 8)) none] [0, 1, 5]) (.seq (.region 0 [.mk4 0 (some 9) (.mv (.t 5)) none,
    .mk4 1 (some 10) (.bin .neq (.t 9) (.c (.i 0))) none] [0, 1, 5, 10]) (.cond (.t 10) (.seq (.region 0 [.mk4 0 (some 11) (.mv (.t 5)) none,
    .mk4 1 (some 4) (.mv (.t 11)) none] [4]) (.ret)) (.skip)))) (c132_1)
def c132 : AFn := ⟨2, 36, [.tmp 4],
  (.seq (.region 0 [.mk4 0 (some 4) (.mv (.c (.i 0))) none] [0, 1]) (c132_2))⟩
def c133 : AFn := ⟨2, 8, [.tmp 4],
  (.seq (.region 0 [.mk4 0 (some 4) (.mv (.c (.i 0))) none] [0, 1]) (.seq (.region 0 [.mk4 0 (some 5) (.mv (.t 0)) none,
    .mk4 1 (some 6) (.mv (.t 1)) none,
    .mk4 2 (some 7) (.call 134 [(.t 5), (.t 6)]) none,
    .mk4 3 (some 4) (.mv (.t 7)) none] [4]) (.ret)))⟩
def c134_0 : AC :=
  .seq (.seq (.region 0 [.mk4 0 (some 113) (.mv (.t 12)) none,
    .mk4 1 (some 114) (.bin .geq (.t 113) (.c (.i 0))) none] [8, 12, 114]) (.cond (.t 114) (.seq (.region 0 [.mk4 0 (some 115) (.mv (.t 12)) none,
    .mk4 1 (some 116) (.mv (.t 8)) none,
    .mk4 2 (some 117) (.bin .add (.t 115) (.t 116)) none,
    .mk4 3 (some 4) (.mv (.t 117)) none] [4]) (.ret)) (.skip))) (.seq (.region 0 [.mk4 0 (some 4) (.mv (.c (.i (-1)))) none] [4]) (.ret))
def c134_1 : AC :=
  .seq (.seq (.region 0 [.mk4 0 (some 138) (.mv (.t 13)) none,
    .mk4 1 (some 139) (.bin .lss (.t 138) (.c (.i 0))) none] [8, 13, 139]) (.cond (.t 139) (.seq (.region 0 [.mk4 0 (some 4) (.mv (.c (.i (-1)))) none] [4]) (.ret)) (.skip))) (.seq (.region 0 [.mk4 0 (some 140) (.mv (.t 8)) none,
    .mk4 1 (some 141) (.mv (.t 13)) none,
    .mk4 2 (some 142) (.bin .add (.t 140) (.t 141)) none,
    .mk4 3 (some 4) (.mv (.t 142)) none] [4]) (.ret))
def c134_2 : AC :=
  .seq (.region 0 [.mk4 0 (some 133) (.mv (.t 0)) none,
    .mk4 1 (some 134) (.mv (.t 8)) none,
    .mk4 2 (some 135) (.sliceS (.t 133) (some (.t 134)) none) none,
    .mk4 3 (some 136) (.mv (.t 1)) none,
    .mk4 4 (some 137) (.call 138 [(.t 135), (.t 136)]) none,
    .mk4 5 (some 13) (.mv (.t 137)) none] [8, 13]) (c134_1)
def c134_3 : AC :=
  .seq (.region 0 [.mk4 0 (some 108) (.mv (.t 0)) none,
    .mk4 1 (some 109) (.mv (.t 8)) none,
    .mk4 2 (some 110) (.sliceS (.t 108) (some (.t 109)) none) none,
    .mk4 3 (some 111) (.mv (.t 1)) none,
    .mk4 4 (some 112) (.call 136 [(.t 110), (.t 111)]) none,
    .mk4 5 (some 12) (.mv (.t 112)) none] [8, 12]) (c134_0)
def c134_4 : AC :=
  .seq (.region 0 [.mk4 0 (some 118) (.mv (.t 5)) none,
    .mk4 1 (some 119) (.fail) none,
    .mk4 2 (some 120) (.bin .gtr (.t 118) (.t 119)) none,
    .mk4 3 (some 121) (.mv (.t 120)) none,
    .mk4 4 (some 122) (.mv (.t 10)) (some (121, true)),
    .mk4 5 (some 123) (.mv (.t 8)) (some (121, true)),
    .mk4 6 (some 124) (.bin .shr (.t 123) (.c (.int .u64 4))) (some (121, true)),
    .mk4 7 (some 125) (.bin .add (.c (.i 4)) (.t 124)) (some (121, true)),
    .mk4 8 (some 126) (.bin .geq (.t 122) (.t 125)) (some (121, true)),
    .mk4 9 (some 127) (.pick (.t 121) (.t 126) (.c (.bool false))) none,
    .mk4 10 (some 128) (.mv (.t 127)) none,
    .mk4 11 (some 129) (.mv (.t 8)) (some (128, true)),
    .mk4 12 (some 130) (.mv (.t 9)) (some (128, true)),
    .mk4 13 (some 131) (.bin .lss (.t 129) (.t 130)) (some (128, true)),
    .mk4 14 (some 132) (.pick (.t 128) (.t 131) (.c (.bool false))) none] [0, 1, 5, 6, 7, 8, 9, 10, 132]) (.cond (.t 132) (c134_2) (.skip))
def c134_5 : AC :=
  .seq (.region 0 [.mk4 0 (some 99) (.mv (.t 5)) none,
    .mk4 1 (some 100) (.fail) none,
    .mk4 2 (some 101) (.bin .leq (.t 99) (.t 100)) none,
    .mk4 3 (some 102) (.mv (.t 101)) none,
    .mk4 4 (some 103) (.mv (.t 10)) (some (102, true)),
    .mk4 5 (some 104) (.mv (.t 8)) (some (102, true)),
    .mk4 6 (some 105) (.call 137 [(.t 104)]) (some (102, true)),
    .mk4 7 (some 106) (.bin .gtr (.t 103) (.t 105)) (some (102, true)),
    .mk4 8 (some 107) (.pick (.t 102) (.t 106) (.c (.bool false))) none] [0, 1, 5, 6, 7, 8, 9, 10, 107]) (.cond (.t 107) (c134_3) (c134_4))
def c134_6 : AC :=
  .seq (.region 0 [.mk4 0 (some 95) (.mv (.t 8)) none,
    .mk4 1 (some 96) (.bin .add (.t 95) (.c (.i 1))) none,
    .mk4 2 (some 8) (.mv (.t 96)) none] [0, 1, 5, 6, 7, 8, 9, 10]) (.seq (.region 0 [.mk4 0 (some 97) (.mv (.t 10)) none,
    .mk4 1 (some 98) (.bin .add (.t 97) (.c (.i 1))) none,
    .mk4 2 (some 10) (.mv (.t 98)) none] [0, 1, 5, 6, 7, 8, 9, 10]) (c134_5))
def c134_7 : AC :=
  .seq (.seq (.region 0 [.mk4 0 (some 72) (.mv (.t 11)) none,
    .mk4 1 (some 73) (.bin .lss (.t 72) (.c (.i 0))) none] [0, 1, 5, 6, 7, 8, 9, 10, 11, 73]) (.cond (.t 73) (.seq (.region 0 [.mk4 0 (some 4) (.mv (.c (.i (-1)))) none] [4]) (.ret)) (.skip))) (.region 0 [.mk4 0 (some 74) (.mv (.t 8)) none,
    .mk4 1 (some 75) (.mv (.t 11)) none,
    .mk4 2 (some 76) (.bin .add (.t 75) (.c (.i 1))) none,
    .mk4 3 (some 77) (.bin .add (.t 74) (.t 76)) none,
    .mk4 4 (some 8) (.mv (.t 77)) none] [0, 1, 5, 6, 7, 8, 9, 10])
def c134_8 : AC :=
  .seq (.region 0 [.mk4 0 (some 65) (.mv (.t 0)) none,
    .mk4 1 (some 66) (.mv (.t 8)) none,
    .mk4 2 (some 67) (.bin .add (.t 66) (.c (.i 1))) none,
    .mk4 3 (some 68) (.mv (.t 9)) none,
    .mk4 4 (some 69) (.sliceS (.t 65) (some (.t 67)) (some (.t 68))) none,
    .mk4 5 (some 70) (.mv (.t 6)) none,
    .mk4 6 (some 71) (.call 135 [(.t 69), (.t 70)]) none,
    .mk4 7 (some 11) (.mv (.t 71)) none] [0, 1, 5, 6, 7, 8, 9, 10, 11]) (c134_7)
def c134_9 : AC :=
  .seq (.seq (.region 0 [.mk4 0 (some 78) (.mv (.t 0)) none,
    .mk4 1 (some 79) (.mv (.t 8)) none,
    .mk4 2 (some 80) (.bin .add (.t 79) (.c (.i 1))) none,
    .mk4 3 (some 81) (.ixStr (.t 78) (.t 80)) none,
    .mk4 4 (some 82) (.mv (.t 7)) none,
    .mk4 5 (some 83) (.bin .eql (.t 81) (.t 82)) none,
    .mk4 6 (some 84) (.mv (.t 83)) none,
    .mk4 7 (some 85) (.mv (.t 0)) (some (84, true)),
    .mk4 8 (some 86) (.mv (.t 8)) (some (84, true)),
    .mk4 9 (some 87) (.mv (.t 8)) (some (84, true)),
    .mk4 10 (some 88) (.mv (.t 5)) (some (84, true)),
    .mk4 11 (some 89) (.bin .add (.t 87) (.t 88)) (some (84, true)),
    .mk4 12 (some 90) (.sliceS (.t 85) (some (.t 86)) (some (.t 89))) (some (84, true)),
    .mk4 13 (some 91) (.mv (.t 1)) (some (84, true)),
    .mk4 14 (some 92) (.bin .eql (.t 90) (.t 91)) (some (84, true)),
    .mk4 15 (some 93) (.pick (.t 84) (.t 92) (.c (.bool false))) none] [0, 1, 5, 6, 7, 8, 9, 10, 93]) (.cond (.t 93) (.seq (.region 0 [.mk4 0 (some 94) (.mv (.t 8)) none,
    .mk4 1 (some 4) (.mv (.t 94)) none] [4]) (.ret)) (.skip))) (c134_6)
def c134_10 : AC :=
  .seq (.seq (.region 0 [.mk4 0 (some 60) (.mv (.t 0)) none,
    .mk4 1 (some 61) (.mv (.t 8)) none,
    .mk4 2 (some 62) (.ixStr (.t 60) (.t 61)) none,
    .mk4 3 (some 63) (.mv (.t 6)) none,
    .mk4 4 (some 64) (.bin .neq (.t 62) (.t 63)) none] [0, 1, 5, 6, 7, 8, 9, 10, 64]) (.cond (.t 64) (c134_8) (.skip))) (c134_9)
def c134_11 : AC :=
  .seq (.block 1 (.loop [0, 1, 5, 6, 7, 8, 9, 10] (.seq (.seq (.region 0 [.mk4 0 (some 57) (.mv (.t 8)) none,
    .mk4 1 (some 58) (.mv (.t 9)) none,
    .mk4 2 (some 59) (.bin .lss (.t 57) (.t 58)) none] [0, 1, 5, 6, 7, 8, 9, 10, 59]) (.cond (.t 59) (.skip) (.exit 1))) (.block 2 (c134_10))))) (.seq (.region 0 [.mk4 0 (some 4) (.mv (.c (.i (-1)))) none] [4]) (.ret))
def c134_12 : AC :=
  .seq (.region 0 [.mk4 0 (some 52) (.mv (.t 0)) none,
    .mk4 1 (some 53) (.lenS (.t 52)) none,
    .mk4 2 (some 54) (.mv (.t 5)) none,
    .mk4 3 (some 55) (.bin .sub (.t 53) (.t 54)) none,
    .mk4 4 (some 56) (.bin .add (.t 55) (.c (.i 1))) none,
    .mk4 5 (some 9) (.mv (.t 56)) none] [0, 1, 5, 6, 7, 8, 9]) (.seq (.region 0 [.mk4 0 (some 10) (.mv (.c (.i 0))) none] [0, 1, 5, 6, 7, 8, 9, 10]) (c134_11))
def c134_13 : AC :=
  .seq (.region 0 [.mk4 0 (some 37) (.mv (.t 5)) none,
    .mk4 1 (some 38) (.fail) none,
    .mk4 2 (some 39) (.bin .leq (.t 37) (.t 38)) none,
    .mk4 3 (some 40) (.mv (.t 39)) none,
    .mk4 4 (some 41) (.mv (.t 0)) (some (40, true)),
    .mk4 5 (some 42) (.lenS (.t 41)) (some (40, true)),
    .mk4 6 (some 43) (.bin .leq (.t 42) (.c (.i 64))) (some (40, true)),
    .mk4 7 (some 44) (.pick (.t 40) (.t 43) (.c (.bool false))) none,
    .mk4 8 (some 36) (.mv (.t 44)) none] [0, 1, 5, 36]) (.cond (.t 36) (.seq (.region 0 [.mk4 0 (some 45) (.mv (.t 0)) none,
    .mk4 1 (some 46) (.mv (.t 1)) none,
    .mk4 2 (some 47) (.call 136 [(.t 45), (.t 46)]) none,
    .mk4 3 (some 4) (.mv (.t 47)) none] [4]) (.ret)) (.skip))
def c134_14 : AC :=
  .seq (.region 0 [.mk4 0 (some 32) (.mv (.t 5)) none,
    .mk4 1 (some 33) (.mv (.t 0)) none,
    .mk4 2 (some 34) (.lenS (.t 33)) none,
    .mk4 3 (some 35) (.bin .geq (.t 32) (.t 34)) none,
    .mk4 4 (some 31) (.mv (.t 35)) none] [0, 1, 5, 31]) (.cond (.t 31) (.seq (.region 0 [.mk4 0 (some 4) (.mv (.c (.i (-1)))) none] [4]) (.ret)) (c134_13))
def c134_15 : AC :=
  .seq (.region 0 [.mk4 0 (some 25) (.mv (.t 5)) none,
    .mk4 1 (some 26) (.bin .eql (.t 25) (.c (.i 1))) none,
    .mk4 2 (some 24) (.mv (.t 26)) none] [0, 1, 5, 24]) (.cond (.t 24) (.seq (.region 0 [.mk4 0 (some 27) (.mv (.t 0)) none,
    .mk4 1 (some 28) (.mv (.t 1)) none,
    .mk4 2 (some 29) (.ixStr (.t 28) (.c (.i 0))) none,
    .mk4 3 (some 30) (.call 135 [(.t 27), (.t 29)]) none,
    .mk4 4 (some 4) (.mv (.t 30)) none] [4]) (.ret)) (c134_14))
def c134_16 : AC :=
  .seq (.region 0 [.mk4 0 (some 17) (.mv (.t 5)) none,
    .mk4 1 (some 18) (.bin .eql (.t 17) (.c (.i 0))) none,
    .mk4 2 (some 19) (.mv (.t 18)) none,
    .mk4 3 (some 20) (.mv (.t 1)) (some (19, false)),
    .mk4 4 (some 21) (.mv (.t 0)) (some (19, false)),
    .mk4 5 (some 22) (.bin .eql (.t 20) (.t 21)) (some (19, false)),
    .mk4 6 (some 23) (.pick (.t 19) (.c (.bool true)) (.t 22)) none,
    .mk4 7 (some 16) (.mv (.t 23)) none] [0, 1, 5, 16]) (.cond (.t 16) (.seq (.region 0 [.mk4 0 (some 4) (.mv (.c (.i 0))) none] [4]) (.ret)) (c134_15))
def c134_17 : AC :=
  .seq (.region 0 [.mk4 0 (some 48) (.mv (.t 1)) none,
    .mk4 1 (some 49) (.ixStr (.t 48) (.c (.i 0))) none,
    .mk4 2 (some 6) (.mv (.t 49)) none] [0, 1, 5, 6]) (.seq (.region 0 [.mk4 0 (some 50) (.mv (.t 1)) none,
    .mk4 1 (some 51) (.ixStr (.t 50) (.c (.i 1))) none,
    .mk4 2 (some 7) (.mv (.t 51)) none] [0, 1, 5, 6, 7]) (.seq (.region 0 [.mk4 0 (some 8) (.mv (.c (.i 0))) none] [0, 1, 5, 6, 7, 8]) (c134_12)))
def c134 : AFn := ⟨2, 143, [.tmp 4],
  (.seq (.region 0 [.mk4 0 (some 4) (.mv (.c (.i 0))) none] [0, 1]) (.seq (.region 0 [.mk4 0 (some 14) (.mv (.t 1)) none,
    .mk4 1 (some 15) (.lenS (.t 14)) none,
    .mk4 2 (some 5) (.mv (.t 15)) none] [0, 1, 5]) (.seq (.block 0 (c134_16)) (c134_17))))⟩
def c135 : AFn := ⟨2, 8, [.tmp 4],
  (.seq (.region 0 [.mk4 0 (some 4) (.mv (.c (.i 0))) none] [0, 1]) (.seq (.region 0 [.mk4 0 (some 5) (.mv (.t 0)) none,
    .mk4 1 (some 6) (.mv (.t 1)) none,
    .mk4 2 (some 7) (.call 139 [(.t 5), (.t 6)]) none,
    .mk4 3 (some 4) (.mv (.t 7)) none] [4]) (.ret)))⟩
def c141_0 : AC :=
  .cond (.t 86) (.region 0 [.mk4 0 (some 87) (.load1 (.t 4)) none,
    .mk4 1 (some 88) (.nilck (.t 87)) none,
    .mk4 2 (some 89) (.faddr 0 (.t 88)) none,
    .mk4 3 (some 90) (.load1 (.t 89)) none,
    .mk4 4 (some 91) (.call 87 [(.t 90)]) none,
    .mk4 5 (some 9) (.mv (.t 91)) none] [8, 9, 10]) (.skip)
def c141_1 : AC :=
  .seq (.region 0 [.mk4 0 (some 92) (.mv (.t 8)) none,
    .mk4 1 (some 93) (.mv (.t 9)) none,
    .mk4 2 (some 94) (.mv (.t 10)) none,
    .mk4 3 (some 8) (.mv (.t 92)) none,
    .mk4 4 (some 9) (.mv (.t 93)) none,
    .mk4 5 (some 10) (.mv (.t 94)) none,
    .mk4 6 (some 11) (.mv (.c (.i 0))) none] [8, 9, 10, 11]) (.ret)
def c141_2 : AC :=
  .region 0 [.mk4 0 (some 79) (.mv (.t 8)) none,
    .mk4 1 (some 80) (.mv (.t 15)) none,
    .mk4 2 (some 81) (.mv (.t 16)) none,
    .mk4 3 (some 82) (.build [.i 0, .i 0] [(0, 1, (.t 80)), (1, 1, (.t 81))]) none,
    .mk4 4 (some 83) (.bslice 2 1 [.i 0, .i 0] [(0, (.t 82))]) none,
    .mk4 5 (some 84) (.append 2 16 (.t 79) (.t 83)) none,
    .mk4 6 (some 8) (.mv (.t 84)) none] [4, 8, 9, 10, 13, 72, 73]
def c141_3 : AC :=
  .seq (.region 0 [.mk4 0 (some 75) (.mv (.t 73)) none,
    .mk4 1 (some 76) (.ixA 96 1 none (.t 72) (.t 73)) none,
    .mk4 2 (some 15) (.mv (.t 75)) none,
    .mk4 3 (some 16) (.mv (.t 76)) none] [4, 8, 9, 10, 13, 15, 16, 72, 73]) (.seq (.region 0 [.mk4 0 (some 77) (.mv (.t 16)) none,
    .mk4 1 (some 78) (.bin .neq (.t 77) (.c (.i 0))) none] [4, 8, 9, 10, 13, 15, 16, 72, 73, 78]) (.cond (.t 78) (c141_2) (.skip)))
def c141_4 : AC :=
  .seq (.region 0 [.mk4 0 (some 74) (.bin .lss (.t 73) (.c (.i 96))) none] [4, 8, 9, 10, 13, 72, 73, 74]) (.seq (.cond (.t 74) (.skip) (.exit 2)) (.seq (.block 3 (c141_3)) (.region 0 [.mk4 0 (some 85) (.bin .add (.t 73) (.c (.i 1))) none,
    .mk4 1 (some 73) (.mv (.t 85)) none] [4, 8, 9, 10, 13, 72, 73])))
def c141_5 : AC :=
  .region 0 [.mk4 0 (some 56) (.faddr 0 (.t 14)) none,
    .mk4 1 (some 57) (.load1 (.t 56)) none,
    .mk4 2 (some 58) (.ixaA 96 1 (.t 12) (.t 57)) none,
    .mk4 3 (some 59) (.load1 (.t 58)) none,
    .mk4 4 (some 60) (.faddr 1 (.t 14)) none,
    .mk4 5 (some 61) (.load1 (.t 60)) none,
    .mk4 6 (some 62) (.load1 (.t 4)) none,
    .mk4 7 (some 63) (.nilck (.t 62)) none,
    .mk4 8 (some 64) (.faddr 2 (.t 63)) none,
    .mk4 9 (some 65) (.load1 (.t 64)) none,
    .mk4 10 (some 66) (.faddr 0 (.t 14)) none,
    .mk4 11 (some 67) (.load1 (.t 66)) none,
    ⟨12, (some 68), .call 150 [(.t 65), (.t 67)], none, none, [(57, .load1 (.t 56), none), (59, .load1 (.t 58), none), (61, .load1 (.t 60), none)]⟩,
    .mk4 13 (some 69) (.bin .and (.t 61) (.t 68)) none,
    .mk4 14 (some 70) (.bin .or (.t 59) (.t 69)) none,
    .mk4 15 (some 71) (.ixaA 96 1 (.t 12) (.t 57)) none,
    .mk4 16 none (.store 1 (.t 71) (.t 70)) none] []
def c141_6 : AC :=
  .seq (.seq (.region 0 [.mk4 0 (some 53) (.faddr 0 (.t 14)) none,
    .mk4 1 (some 54) (.load1 (.t 53)) none,
    .mk4 2 (some 55) (.bin .eql (.t 54) (.c (.i (-1)))) none] [4, 12, 13, 14, 55]) (.cond (.t 55) (.seq (.region 0 [.mk4 0 none (.store 1 (.t 13) (.c (.bool true))) none] []) (.exit 1)) (.skip))) (c141_5)
def c141_7 : AC :=
  .seq (.seq (.region 0 [.mk4 0 (some 48) (.load1 (.t 4)) none,
    .mk4 1 (some 49) (.mv (.t 1)) none,
    ⟨2, (some 50), .call 149 [(.t 49)], none, none, [(48, .load1 (.t 4), none)]⟩,
    .mk4 3 (some 51) (.call 148 [(.t 48), (.t 50)]) none] [4, 8, 9, 10, 12, 13, 51]) (.block 0 (.rangeFunc (.t 51) [52] [4, 12, 13] (.region 0 [.mk4 0 (some 14) (.alloc 2 [.i 0, .i 0]) none,
    .mk4 1 none (.store 2 (.t 14) (.t 52)) none] [4, 12, 13, 14]) (.block 1 (c141_6))))) (.seq (.seq (.region 0 [.mk4 0 (some 72) (.loadN 96 (.t 12)) none,
    .mk4 1 (some 73) (.mv (.c (.i 0))) none] [4, 8, 9, 10, 13, 72, 73]) (.block 2 (.loop [4, 8, 9, 10, 13, 72, 73] (c141_4)))) (.seq (.seq (.region 0 [.mk4 0 (some 86) (.load1 (.t 13)) none] [4, 8, 9, 10, 86]) (c141_0)) (c141_1)))
def c141_8 : AC :=
  .seq (.seq (.region 0 [.mk4 0 (some 41) (.mv (.t 10)) none,
    .mk4 1 (some 42) (.bin .eql (.t 41) (.c (.i 3))) none,
    .mk4 2 (some 43) (.mv (.t 42)) none,
    .mk4 3 (some 44) (.mv (.t 10)) (some (43, false)),
    .mk4 4 (some 45) (.bin .eql (.t 44) (.c (.i 4))) (some (43, false)),
    .mk4 5 (some 46) (.pick (.t 43) (.c (.bool true)) (.t 45)) none] [1, 4, 8, 9, 10, 46]) (.cond (.t 46) (.seq (.region 0 [.mk4 0 (some 47) (.mv (.t 10)) none,
    .mk4 1 (some 8) (.mv (.c (.nils))) none,
    .mk4 2 (some 9) (.mv (.c (.nils))) none,
    .mk4 3 (some 10) (.mv (.t 47)) none,
    .mk4 4 (some 11) (.mv (.c (.i 0))) none] [8, 9, 10, 11]) (.ret)) (.skip))) (.seq (.region 0 [.mk4 0 (some 12) (.alloc 96 (List.replicate 96 (.i 0 : V))) none] [1, 4, 8, 9, 10, 12]) (.seq (.region 0 [.mk4 0 (some 13) (.alloc 1 [.bool false]) none,
    .mk4 1 none (.store 1 (.t 13) (.c (.bool false))) none] [1, 4, 8, 9, 10, 12, 13]) (c141_7)))
def c141_9 : AC :=
  .seq (.region 0 [.mk4 0 (some 27) (.mv (.t 1)) none,
    .mk4 1 (some 28) (.load1 (.t 4)) none,
    .mk4 2 (some 29) (.nilck (.t 28)) none,
    .mk4 3 (some 30) (.faddr 0 (.t 29)) none,
    .mk4 4 (some 31) (.load1 (.t 30)) none,
    .mk4 5 (some 32) (.mv (.t 2)) none,
    .mk4 6 (some 33) (.mv (.t 3)) none,
    .mk4 7 (some 34) (.load1 (.t 4)) none,
    .mk4 8 (some 35) (.nilck (.t 34)) none,
    .mk4 9 (some 36) (.faddr 1 (.t 35)) none,
    .mk4 10 (some 37) (.load1 (.t 36)) none,
    .mk4 11 (some 38) (.nilck (.t 37)) none,
    .mk4 12 (some 39) (.mkBm "roundhouse/dqueue.due" (.t 38)) none,
    .mk4 13 (some 40) (.call 84 [(.t 27), (.t 31), (.t 32), (.t 33), (.t 39)]) none,
    .mk4 14 (some 10) (.mv (.t 40)) none] [1, 4, 8, 9, 10]) (c141_8)
def c141_10 : AC :=
  .seq (.seq (.region 0 [.mk4 0 (some 21) (.mv (.t 1)) none,
    .mk4 1 (some 22) (.eq .ptr false (.t 21) (.c (.ptr none))) none] [1, 2, 3, 4, 8, 9, 22]) (.cond (.t 22) (.region 0 [.mk4 0 (some 24) (.call 82 [(.c (.nils))]) none,
    .mk4 1 (some 23) (.mv (.t 24)) none,
    .mk4 2 (some 25) (.extract (.t 23) 0) none,
    .mk4 3 (some 26) (.extract (.t 23) 1) none,
    .mk4 4 (some 1) (.mv (.t 25)) none] [1, 2, 3, 4, 8, 9]) (.skip))) (c141_9)
def c141_11 : AC :=
  .seq (.seq (.region 0 [.mk4 0 (some 17) (.load1 (.t 4)) none,
    .mk4 1 (some 18) (.call 147 [(.t 17)]) none] [1, 2, 3, 4, 8, 9, 18]) (.cond (.t 18) (.seq (.region 0 [.mk4 0 (some 8) (.mv (.c (.nils))) none,
    .mk4 1 (some 9) (.mv (.c (.nils))) none,
    .mk4 2 (some 10) (.mv (.c (.i 0))) none,
    .mk4 3 (some 11) (.mv (.c (.i 1))) none] [8, 9, 10, 11]) (.ret)) (.skip))) (.seq (.region 0 [.mk4 0 (some 19) (.load1 (.t 4)) none,
    .mk4 1 (some 20) (.call 146 [(.t 19)]) none] [1, 2, 3, 4, 8, 9]) (c141_10))
def c141 : AFn := ⟨4, 95, [.tmp 8, .tmp 9, .tmp 10, .tmp 11],
  (.seq (.region 0 [.mk4 0 (some 4) (.box 1 (.t 0)) none,
    .mk4 1 (some 8) (.mv (.c (.nils))) none,
    .mk4 2 (some 9) (.mv (.c (.nils))) none,
    .mk4 3 (some 10) (.mv (.c (.i 0))) none,
    .mk4 4 (some 11) (.mv (.c (.i 0))) none] [1, 2, 3, 4, 8, 9]) (c141_11))⟩
def c143_0 : AC :=
  .seq (.region 0 [.mk4 0 (some 18) (.mv (.t 0)) none,
    .mk4 1 (some 19) (.nilck (.t 18)) none,
    .mk4 2 (some 20) (.faddr 2 (.t 19)) none,
    .mk4 3 (some 21) (.load1 (.t 20)) none,
    .mk4 4 (some 22) (.mv (.t 1)) none,
    .mk4 5 (some 23) (.call 150 [(.t 21), (.t 22)]) none,
    .mk4 6 (some 24) (.bin .neq (.t 23) (.c (.i 0))) none,
    .mk4 7 (some 17) (.mv (.t 24)) none] [0, 1, 17]) (.cond (.t 17) (.seq (.region 0 [.mk4 0 (some 4) (.mv (.c (.i 2))) none] [4]) (.ret)) (.skip))
def c143_1 : AC :=
  .seq (.region 0 [.mk4 0 (some 9) (.mv (.t 1)) none,
    .mk4 1 (some 10) (.bin .neq (.t 9) (.c (.i (-1)))) none,
    .mk4 2 (some 11) (.mv (.t 10)) none,
    .mk4 3 (some 12) (.mv (.t 0)) (some (11, true)),
    .mk4 4 (some 13) (.mv (.t 1)) (some (11, true)),
    .mk4 5 (some 14) (.call 151 [(.t 12), (.t 13)]) (some (11, true)),
    .mk4 6 (some 15) (.un .not (.t 14)) (some (11, true)),
    .mk4 7 (some 16) (.pick (.t 11) (.t 15) (.c (.bool false))) none,
    .mk4 8 (some 8) (.mv (.t 16)) none] [0, 1, 8]) (.cond (.t 8) (.seq (.region 0 [.mk4 0 (some 4) (.mv (.c (.i 110))) none] [4]) (.ret)) (c143_0))
def c143_2 : AC :=
  .seq (.region 0 [.mk4 0 (some 25) (.mv (.t 0)) none,
    .mk4 1 (some 26) (.mv (.t 1)) none,
    .mk4 2 (some 27) (.nilck (.t 25)) none,
    .mk4 3 (some 28) (.faddr 4 (.t 27)) none,
    .mk4 4 none (.store 1 (.t 28) (.t 26)) none] []) (.seq (.region 0 [.mk4 0 (some 4) (.mv (.c (.i 0))) none] [4]) (.ret))
def c143_3 : AC :=
  .seq (.region 0 [.mk4 0 (some 4) (.mv (.c (.i 0))) none] [0, 1]) (.seq (.block 0 (.seq (.region 0 [.mk4 0 (some 6) (.mv (.t 0)) none,
    .mk4 1 (some 7) (.call 147 [(.t 6)]) none,
    .mk4 2 (some 5) (.mv (.t 7)) none] [0, 1, 5]) (.cond (.t 5) (.seq (.region 0 [.mk4 0 (some 4) (.mv (.c (.i 1))) none] [4]) (.ret)) (c143_1)))) (c143_2))
def c143 : AFn := ⟨2, 29, [.tmp 4],
  (c143_3)⟩
def c144_0 : AC :=
  .seq (.region 0 [.mk4 0 (some 35) (.mv (.t 2)) none,
    .mk4 1 (some 36) (.bin .neq (.t 35) (.c (.i 0))) none,
    .mk4 2 (some 37) (.mv (.t 36)) none,
    .mk4 3 (some 38) (.mv (.t 0)) (some (37, true)),
    .mk4 4 (some 39) (.mv (.t 1)) (some (37, true)),
    .mk4 5 (some 40) (.call 151 [(.t 38), (.t 39)]) (some (37, true)),
    .mk4 6 (some 41) (.un .not (.t 40)) (some (37, true)),
    .mk4 7 (some 42) (.pick (.t 37) (.t 41) (.c (.bool false))) none,
    .mk4 8 (some 34) (.mv (.t 42)) none] [0, 1, 2, 34]) (.cond (.t 34) (.seq (.region 0 [.mk4 0 (some 6) (.mv (.c (.i 110))) none] [6]) (.ret)) (.skip))
def c144_1 : AC :=
  .seq (.region 0 [.mk4 0 (some 11) (.mv (.t 1)) none,
    .mk4 1 (some 12) (.bin .lss (.t 11) (.c (.i 0))) none,
    .mk4 2 (some 13) (.mv (.t 12)) none,
    .mk4 3 (some 14) (.mv (.t 1)) (some (13, false)),
    .mk4 4 (some 15) (.bin .gtr (.t 14) (.c (.i 95))) (some (13, false)),
    .mk4 5 (some 16) (.pick (.t 13) (.c (.bool true)) (.t 15)) none,
    .mk4 6 (some 17) (.mv (.t 16)) none,
    .mk4 7 (some 18) (.mv (.t 2)) (some (17, false)),
    .mk4 8 (some 19) (.call 152 [(.t 18)]) (some (17, false)),
    .mk4 9 (some 20) (.un .not (.t 19)) (some (17, false)),
    .mk4 10 (some 21) (.pick (.t 17) (.c (.bool true)) (.t 20)) none,
    .mk4 11 (some 22) (.mv (.t 21)) none,
    .mk4 12 (some 23) (.mv (.t 2)) (some (22, false)),
    .mk4 13 (some 24) (.bin .neq (.t 23) (.c (.i 0))) (some (22, false)),
    .mk4 14 (some 25) (.mv (.t 24)) (some (22, false)),
    .mk4 15 (some 26) (.mv (.t 1)) (some (25, true)),
    .mk4 16 (some 27) (.mv (.t 0)) (some (25, true)),
    .mk4 17 (some 28) (.nilck (.t 27)) (some (25, true)),
    .mk4 18 (some 29) (.faddr 4 (.t 28)) (some (25, true)),
    .mk4 19 (some 30) (.load1 (.t 29)) (some (25, true)),
    .mk4 20 (some 31) (.bin .eql (.t 26) (.t 30)) (some (25, true)),
    .mk4 21 (some 32) (.pick (.t 25) (.t 31) (.c (.bool false))) (some (22, false)),
    .mk4 22 (some 33) (.pick (.t 22) (.c (.bool true)) (.t 32)) none,
    .mk4 23 (some 10) (.mv (.t 33)) none] [0, 1, 2, 10]) (.cond (.t 10) (.seq (.region 0 [.mk4 0 (some 6) (.mv (.c (.i 2))) none] [6]) (.ret)) (c144_0))
def c144_2 : AC :=
  .seq (.region 0 [.mk4 0 (some 43) (.mv (.t 0)) none,
    .mk4 1 (some 44) (.nilck (.t 43)) none,
    .mk4 2 (some 45) (.faddr 2 (.t 44)) none,
    .mk4 3 (some 46) (.load1 (.t 45)) none,
    .mk4 4 (some 47) (.mv (.t 1)) none,
    .mk4 5 (some 48) (.mv (.t 2)) none,
    .mk4 6 (some 49) (.call 153 [(.t 46), (.t 47), (.t 48)]) none,
    .mk4 7 (some 6) (.mv (.t 49)) none] [6]) (.ret)
def c144_3 : AC :=
  .seq (.region 0 [.mk4 0 (some 6) (.mv (.c (.i 0))) none] [0, 1, 2]) (.seq (.block 0 (.seq (.region 0 [.mk4 0 (some 8) (.mv (.t 0)) none,
    .mk4 1 (some 9) (.call 147 [(.t 8)]) none,
    .mk4 2 (some 7) (.mv (.t 9)) none] [0, 1, 2, 7]) (.cond (.t 7) (.seq (.region 0 [.mk4 0 (some 6) (.mv (.c (.i 1))) none] [6]) (.ret)) (c144_1)))) (c144_2))
def c144 : AFn := ⟨3, 50, [.tmp 6],
  (c144_3)⟩
def c145_0 : AC :=
  .seq (.region 0 [.mk4 0 (some 7) (.mv (.t 0)) none,
    .mk4 1 (some 8) (.nilck (.t 7)) none,
    .mk4 2 (some 9) (.faddr 2 (.t 8)) none,
    .mk4 3 (some 10) (.load1 (.t 9)) none,
    .mk4 4 (some 11) (.mv (.t 1)) none,
    .mk4 5 (some 12) (.call 150 [(.t 10), (.t 11)]) none,
    .mk4 6 (some 4) (.mv (.t 12)) none] [4]) (.ret)
def c145 : AFn := ⟨2, 13, [.tmp 4],
  (.seq (.region 0 [.mk4 0 (some 4) (.mv (.c (.i 0))) none] [0, 1]) (.seq (.seq (.region 0 [.mk4 0 (some 5) (.mv (.t 0)) none,
    .mk4 1 (some 6) (.call 147 [(.t 5)]) none] [0, 1, 6]) (.cond (.t 6) (.seq (.region 0 [.mk4 0 (some 4) (.mv (.c (.i 0))) none] [4]) (.ret)) (.skip))) (c145_0)))⟩
def c146_0 : AC :=
  .region 0 [.mk4 0 (some 70) (.mv (.t 0)) none,
    .mk4 1 (some 71) (.nilck (.t 70)) none,
    .mk4 2 (some 72) (.faddr 1 (.t 71)) none,
    .mk4 3 (some 73) (.load1 (.t 72)) none,
    .mk4 4 (some 74) (.mv (.t 0)) none,
    .mk4 5 (some 75) (.nilck (.t 74)) none,
    .mk4 6 (some 76) (.faddr 4 (.t 75)) none,
    .mk4 7 (some 77) (.load1 (.t 76)) none,
    .mk4 8 (some 78) (.nilck (.t 73)) none,
    .mk4 9 (some 79) (.mv (.t 73)) none,
    .mk4 10 (some 80) (.invoke [(98, 166), (104, 214)] (.t 79) [(.t 77), (.c (.bool true))]) none] [0]
def c146_1 : AC :=
  .region 0 [.mk4 0 (some 81) (.mv (.t 0)) none,
    .mk4 1 (some 82) (.mv (.t 0)) none,
    .mk4 2 (some 83) (.nilck (.t 82)) none,
    .mk4 3 (some 84) (.faddr 4 (.t 83)) none,
    .mk4 4 (some 85) (.load1 (.t 84)) none,
    .mk4 5 (some 86) (.nilck (.t 81)) none,
    .mk4 6 (some 87) (.faddr 5 (.t 86)) none,
    .mk4 7 none (.store 1 (.t 87) (.t 85)) none] []
def c146_2 : AC :=
  .seq (.region 0 [.mk4 0 (some 48) (.mv (.t 0)) none,
    .mk4 1 (some 49) (.nilck (.t 48)) none,
    .mk4 2 (some 50) (.faddr 2 (.t 49)) none,
    .mk4 3 (some 51) (.load1 (.t 50)) none,
    .mk4 4 (some 52) (.faddr 0 (.t 4)) none,
    .mk4 5 (some 53) (.load1 (.t 52)) none,
    .mk4 6 (some 54) (.call 155 [(.t 51), (.t 53)]) none] [0, 2, 37, 38, 39]) (.exit 1)
def c146_3 : AC :=
  .region 0 [.mk4 0 (some 55) (.mv (.t 0)) none,
    .mk4 1 (some 56) (.nilck (.t 55)) none,
    .mk4 2 (some 57) (.faddr 1 (.t 56)) none,
    .mk4 3 (some 58) (.load1 (.t 57)) none,
    .mk4 4 (some 59) (.loadN 3 (.t 4)) none,
    .mk4 5 (some 60) (.invoke [(98, 168), (104, 216)] (.t 58) [(.t 59)]) none] [0, 2, 37, 38, 39]
def c146_4 : AC :=
  .seq (.seq (.region 0 [.mk4 0 (some 43) (.mv (.t 0)) none,
    .mk4 1 (some 44) (.faddr 0 (.t 4)) none,
    .mk4 2 (some 45) (.load1 (.t 44)) none,
    .mk4 3 (some 46) (.call 151 [(.t 43), (.t 45)]) none,
    .mk4 4 (some 47) (.un .not (.t 46)) none] [0, 2, 4, 37, 38, 39, 47]) (.cond (.t 47) (c146_2) (.skip))) (c146_3)
def c146_5 : AC :=
  .seq (.block 1 (.seq (.region 0 [.mk4 0 (some 41) (.ixaS 3 (.t 37) (.t 39)) none,
    .mk4 1 (some 42) (.loadN 3 (.t 41)) none,
    .mk4 2 (some 4) (.alloc 3 [.i 0, .i 0, .i 0]) none,
    .mk4 3 none (.store 3 (.t 4) (.t 42)) none] [0, 2, 4, 37, 38, 39]) (c146_4))) (.region 0 [.mk4 0 (some 61) (.bin .add (.t 39) (.c (.i 1))) none,
    .mk4 1 (some 39) (.mv (.t 61)) none] [0, 2, 37, 38, 39])
def c146_6 : AC :=
  .seq (.seq (.region 0 [.mk4 0 (some 62) (.mv (.t 2)) none,
    .mk4 1 (some 63) (.mv (.t 62)) none,
    .mk4 2 (some 64) (.mv (.t 0)) (some (63, true)),
    .mk4 3 (some 65) (.nilck (.t 64)) (some (63, true)),
    .mk4 4 (some 66) (.faddr 4 (.t 65)) (some (63, true)),
    .mk4 5 (some 67) (.load1 (.t 66)) (some (63, true)),
    .mk4 6 (some 68) (.bin .geq (.t 67) (.c (.i 0))) (some (63, true)),
    .mk4 7 (some 69) (.pick (.t 63) (.t 68) (.c (.bool false))) none] [0, 69]) (.cond (.t 69) (c146_0) (.skip))) (c146_1)
def c146_7 : AC :=
  .region 0 [.mk4 0 (some 22) (.mv (.t 0)) none,
    .mk4 1 (some 23) (.nilck (.t 22)) none,
    .mk4 2 (some 24) (.faddr 1 (.t 23)) none,
    .mk4 3 (some 25) (.load1 (.t 24)) none,
    .mk4 4 (some 26) (.mv (.t 0)) none,
    .mk4 5 (some 27) (.nilck (.t 26)) none,
    .mk4 6 (some 28) (.faddr 5 (.t 27)) none,
    .mk4 7 (some 29) (.load1 (.t 28)) none,
    .mk4 8 (some 30) (.nilck (.t 25)) none,
    .mk4 9 (some 31) (.mv (.t 25)) none,
    .mk4 10 (some 32) (.invoke [(98, 166), (104, 214)] (.t 31) [(.t 29), (.c (.bool false))]) none] [0, 2]
def c146_8 : AC :=
  .seq (.seq (.region 0 [.mk4 0 (some 33) (.mv (.t 0)) none,
    .mk4 1 (some 34) (.nilck (.t 33)) none,
    .mk4 2 (some 35) (.faddr 2 (.t 34)) none,
    .mk4 3 (some 36) (.load1 (.t 35)) none,
    .mk4 4 (some 37) (.call 154 [(.t 36)]) none,
    .mk4 5 (some 38) (.lenL (.t 37)) none,
    .mk4 6 (some 39) (.mv (.c (.i 0))) none] [0, 2, 37, 38, 39]) (.block 0 (.loop [0, 2, 37, 38, 39] (.seq (.region 0 [.mk4 0 (some 40) (.bin .lss (.t 39) (.t 38)) none] [0, 2, 37, 38, 39, 40]) (.seq (.cond (.t 40) (.skip) (.exit 0)) (c146_5)))))) (c146_6)
def c146_9 : AC :=
  .seq (.seq (.region 0 [.mk4 0 (some 14) (.mv (.t 2)) none,
    .mk4 1 (some 15) (.mv (.t 14)) none,
    .mk4 2 (some 16) (.mv (.t 0)) (some (15, true)),
    .mk4 3 (some 17) (.nilck (.t 16)) (some (15, true)),
    .mk4 4 (some 18) (.faddr 5 (.t 17)) (some (15, true)),
    .mk4 5 (some 19) (.load1 (.t 18)) (some (15, true)),
    .mk4 6 (some 20) (.bin .geq (.t 19) (.c (.i 0))) (some (15, true)),
    .mk4 7 (some 21) (.pick (.t 15) (.t 20) (.c (.bool false))) none] [0, 2, 21]) (.cond (.t 21) (c146_7) (.skip))) (c146_8)
def c146_10 : AC :=
  .seq (.region 0 [.mk4 0 (some 5) (.mv (.t 0)) none,
    .mk4 1 (some 6) (.nilck (.t 5)) none,
    .mk4 2 (some 7) (.faddr 4 (.t 6)) none,
    .mk4 3 (some 8) (.load1 (.t 7)) none,
    .mk4 4 (some 9) (.mv (.t 0)) none,
    .mk4 5 (some 10) (.nilck (.t 9)) none,
    .mk4 6 (some 11) (.faddr 5 (.t 10)) none,
    .mk4 7 (some 12) (.load1 (.t 11)) none,
    .mk4 8 (some 13) (.bin .neq (.t 8) (.t 12)) none,
    .mk4 9 (some 2) (.mv (.t 13)) none] [0, 2]) (c146_9)
def c146 : AFn := ⟨1, 88, [],
  (c146_10)⟩
def c147_0 : AC :=
  .seq (.region 0 [.mk4 0 (some 3) (.mv (.t 0)) none,
    .mk4 1 (some 4) (.eq .ptr false (.t 3) (.c (.ptr none))) none,
    .mk4 2 (some 5) (.mv (.t 4)) none,
    .mk4 3 (some 6) (.mv (.t 0)) (some (5, false)),
    .mk4 4 (some 7) (.nilck (.t 6)) (some (5, false)),
    .mk4 5 (some 8) (.faddr 0 (.t 7)) (some (5, false)),
    .mk4 6 (some 9) (.load1 (.t 8)) (some (5, false)),
    .mk4 7 (some 10) (.eq .ptr false (.t 9) (.c (.ptr none))) (some (5, false)),
    .mk4 8 (some 11) (.pick (.t 5) (.c (.bool true)) (.t 10)) none,
    .mk4 9 (some 2) (.mv (.t 11)) none] [2]) (.ret)
def c147 : AFn := ⟨1, 12, [.tmp 2],
  (.seq (.region 0 [.mk4 0 (some 2) (.mv (.c (.bool false))) none] [0]) (c147_0))⟩
def c148 : AFn := ⟨2, 6, [.tmp 4],
  (.seq (.region 0 [.mk4 0 (some 2) (.box 1 (.t 0)) none,
    .mk4 1 (some 3) (.box 1 (.t 1)) none,
    .mk4 2 (some 4) (.mv (.c (.nilfn))) none] [2, 3]) (.seq (.region 0 [.mk4 0 (some 5) (.mkClo 156 [(.t 2), (.t 3)]) none,
    .mk4 1 (some 4) (.mv (.t 5)) none] [4]) (.ret)))⟩
def c149_0 : AC :=
  .seq (.seq (.region 0 [.mk4 0 (some 3) (.mv (.t 0)) none,
    .mk4 1 (some 4) (.eq .ptr false (.t 3) (.c (.ptr none))) none] [0, 4]) (.cond (.t 4) (.seq (.region 0 [.mk4 0 (some 2) (.mv (.c (.nils))) none] [2]) (.ret)) (.skip))) (.seq (.region 0 [.mk4 0 (some 5) (.mv (.t 0)) none,
    .mk4 1 (some 6) (.nilck (.t 5)) none,
    .mk4 2 (some 7) (.faddr 1 (.t 6)) none,
    .mk4 3 (some 8) (.load1 (.t 7)) none,
    .mk4 4 (some 9) (.call 114 [(.t 8)]) none,
    .mk4 5 (some 2) (.mv (.t 9)) none] [2]) (.ret))
def c149 : AFn := ⟨1, 10, [.tmp 2],
  (.seq (.region 0 [.mk4 0 (some 2) (.mv (.c (.nils))) none] [0]) (c149_0))⟩
def c150_0 : AC :=
  .seq (.region 0 [.mk4 0 (some 12) (.mv (.t 0)) none,
    .mk4 1 (some 13) (.mv (.t 1)) none,
    .mk4 2 (some 14) (.nilck (.t 12)) none,
    .mk4 3 (some 15) (.faddr 96 (.t 14)) none,
    .mk4 4 (some 16) (.ixaA 96 1 (.t 15) (.t 13)) none,
    .mk4 5 (some 17) (.load1 (.t 16)) none,
    .mk4 6 (some 4) (.mv (.t 17)) none] [4]) (.ret)
def c150_1 : AC :=
  .seq (.seq (.region 0 [.mk4 0 (some 5) (.mv (.t 0)) none,
    .mk4 1 (some 6) (.call 157 [(.t 5)]) none,
    .mk4 2 (some 7) (.mv (.t 6)) none,
    .mk4 3 (some 8) (.mv (.t 1)) (some (7, false)),
    .mk4 4 (some 9) (.call 158 [(.t 8)]) (some (7, false)),
    .mk4 5 (some 10) (.un .not (.t 9)) (some (7, false)),
    .mk4 6 (some 11) (.pick (.t 7) (.c (.bool true)) (.t 10)) none] [0, 1, 11]) (.cond (.t 11) (.seq (.region 0 [.mk4 0 (some 4) (.mv (.c (.i 0))) none] [4]) (.ret)) (.skip))) (c150_0)
def c150 : AFn := ⟨2, 18, [.tmp 4],
  (.seq (.region 0 [.mk4 0 (some 4) (.mv (.c (.i 0))) none] [0, 1]) (c150_1))⟩
def c151_0 : AC :=
  .seq (.region 0 [.mk4 0 (some 5) (.mv (.t 0)) none,
    .mk4 1 (some 6) (.nilck (.t 5)) none,
    .mk4 2 (some 7) (.faddr 0 (.t 6)) none,
    .mk4 3 (some 8) (.load1 (.t 7)) none,
    .mk4 4 (some 9) (.mv (.t 1)) none,
    .mk4 5 (some 10) (.call 99 [(.t 8), (.t 9)]) none,
    .mk4 6 (some 11) (.field 0 none (.t 10)) none,
    .mk4 7 (some 4) (.mv (.t 11)) none] [4]) (.ret)
def c151 : AFn := ⟨2, 12, [.tmp 4],
  (.seq (.region 0 [.mk4 0 (some 4) (.mv (.c (.bool false))) none] [0, 1]) (c151_0))⟩
def c152_0 : AC :=
  .seq (.region 0 [.mk4 0 (some 3) (.mv (.t 0)) none,
    .mk4 1 (some 4) (.bin .andNot (.t 3) (.c (.i 38))) none,
    .mk4 2 (some 5) (.bin .eql (.t 4) (.c (.i 0))) none,
    .mk4 3 (some 6) (.mv (.t 5)) none,
    .mk4 4 (some 7) (.mv (.t 0)) (some (6, true)),
    .mk4 5 (some 8) (.bin .eql (.t 7) (.c (.i 0))) (some (6, true)),
    .mk4 6 (some 9) (.mv (.t 8)) (some (6, true)),
    .mk4 7 (some 10) (.mv (.t 0)) (some (9, false)),
    .mk4 8 (some 11) (.bin .and (.t 10) (.c (.i 6))) (some (9, false)),
    .mk4 9 (some 12) (.bin .neq (.t 11) (.c (.i 0))) (some (9, false)),
    .mk4 10 (some 13) (.pick (.t 9) (.c (.bool true)) (.t 12)) (some (6, true)),
    .mk4 11 (some 14) (.pick (.t 6) (.t 13) (.c (.bool false))) none,
    .mk4 12 (some 2) (.mv (.t 14)) none] [2]) (.ret)
def c152 : AFn := ⟨1, 15, [.tmp 2],
  (.seq (.region 0 [.mk4 0 (some 2) (.mv (.c (.bool false))) none] [0]) (c152_0))⟩
def c153_0 : AC :=
  .seq (.region 0 [.mk4 0 (some 11) (.mv (.t 1)) none,
    .mk4 1 (some 12) (.call 158 [(.t 11)]) none,
    .mk4 2 (some 13) (.un .not (.t 12)) none,
    .mk4 3 (some 14) (.mv (.t 13)) none,
    .mk4 4 (some 15) (.mv (.t 2)) (some (14, false)),
    .mk4 5 (some 16) (.call 152 [(.t 15)]) (some (14, false)),
    .mk4 6 (some 17) (.un .not (.t 16)) (some (14, false)),
    .mk4 7 (some 18) (.pick (.t 14) (.c (.bool true)) (.t 17)) none,
    .mk4 8 (some 10) (.mv (.t 18)) none] [0, 1, 2, 10]) (.cond (.t 10) (.seq (.region 0 [.mk4 0 (some 6) (.mv (.c (.i 2))) none] [6]) (.ret)) (.skip))
def c153_1 : AC :=
  .seq (.region 0 [.mk4 0 (some 19) (.mv (.t 0)) none,
    .mk4 1 (some 20) (.mv (.t 1)) none,
    .mk4 2 (some 21) (.mv (.t 2)) none,
    .mk4 3 (some 22) (.nilck (.t 19)) none,
    .mk4 4 (some 23) (.faddr 96 (.t 22)) none,
    .mk4 5 (some 24) (.ixaA 96 1 (.t 23) (.t 20)) none,
    .mk4 6 none (.store 1 (.t 24) (.t 21)) none] []) (.seq (.region 0 [.mk4 0 (some 6) (.mv (.c (.i 0))) none] [6]) (.ret))
def c153_2 : AC :=
  .seq (.region 0 [.mk4 0 (some 6) (.mv (.c (.i 0))) none] [0, 1, 2]) (.seq (.block 0 (.seq (.region 0 [.mk4 0 (some 8) (.mv (.t 0)) none,
    .mk4 1 (some 9) (.call 157 [(.t 8)]) none,
    .mk4 2 (some 7) (.mv (.t 9)) none] [0, 1, 2, 7]) (.cond (.t 7) (.seq (.region 0 [.mk4 0 (some 6) (.mv (.c (.i 1))) none] [6]) (.ret)) (c153_0)))) (c153_1))
def c153 : AFn := ⟨3, 25, [.tmp 6],
  (c153_2)⟩
def c154_0 : AC :=
  .region 0 [.mk4 0 (some 9) (.mv (.t 0)) none,
    .mk4 1 (some 10) (.mv (.t 0)) none,
    .mk4 2 (some 11) (.nilck (.t 10)) none,
    .mk4 3 (some 12) (.faddr 96 (.t 11)) none,
    .mk4 4 (some 13) (.loadN 96 (.t 12)) none,
    .mk4 5 (some 14) (.nilck (.t 9)) none,
    .mk4 6 (some 15) (.faddr 0 (.t 14)) none,
    .mk4 7 none (.store 96 (.t 15) (.t 13)) none] [3]
def c154_1 : AC :=
  .seq (.region 0 [.mk4 0 (some 4) (.mv (.t 0)) none,
    .mk4 1 (some 5) (.call 159 [(.t 4)]) none,
    .mk4 2 (some 3) (.mv (.t 5)) none] [0, 3]) (.seq (.seq (.region 0 [.mk4 0 (some 6) (.mv (.t 0)) none,
    .mk4 1 (some 7) (.call 157 [(.t 6)]) none,
    .mk4 2 (some 8) (.un .not (.t 7)) none] [0, 3, 8]) (.cond (.t 8) (c154_0) (.skip))) (.seq (.region 0 [.mk4 0 (some 16) (.mv (.t 3)) none,
    .mk4 1 (some 2) (.mv (.t 16)) none] [2]) (.ret)))
def c154 : AFn := ⟨1, 17, [.tmp 2],
  (.seq (.region 0 [.mk4 0 (some 2) (.mv (.c (.nils))) none] [0]) (c154_1))⟩
def c155_0 : AC :=
  .region 0 [.mk4 0 (some 11) (.mv (.t 0)) none,
    .mk4 1 (some 12) (.mv (.t 1)) none,
    .mk4 2 (some 13) (.mv (.t 0)) none,
    .mk4 3 (some 14) (.mv (.t 1)) none,
    .mk4 4 (some 15) (.nilck (.t 11)) none,
    .mk4 5 (some 16) (.faddr 0 (.t 15)) none,
    .mk4 6 (some 17) (.ixaA 96 1 (.t 16) (.t 12)) none,
    .mk4 8 (some 18) (.nilck (.t 13)) none,
    .mk4 9 (some 19) (.faddr 96 (.t 18)) none,
    .mk4 7 none (.store 1 (.t 17) (.c (.i 0))) none,
    .mk4 10 (some 20) (.ixaA 96 1 (.t 19) (.t 14)) none,
    .mk4 11 none (.store 1 (.t 20) (.c (.i 0))) none] []
def c155_1 : AC :=
  .seq (.region 0 [.mk4 0 (some 4) (.mv (.t 0)) none,
    .mk4 1 (some 5) (.call 157 [(.t 4)]) none,
    .mk4 2 (some 6) (.un .not (.t 5)) none,
    .mk4 3 (some 7) (.mv (.t 6)) none,
    .mk4 4 (some 8) (.mv (.t 1)) (some (7, true)),
    .mk4 5 (some 9) (.call 158 [(.t 8)]) (some (7, true)),
    .mk4 6 (some 10) (.pick (.t 7) (.t 9) (.c (.bool false))) none] [0, 1, 10]) (.cond (.t 10) (c155_0) (.skip))
def c155 : AFn := ⟨2, 21, [],
  (c155_1)⟩
def c156_0 : AC :=
  .seq (.region 0 [.mk4 0 (some 23) (.ixaS 2 (.t 19) (.t 21)) none,
    .mk4 1 (some 24) (.loadN 2 (.t 23)) none,
    .mk4 2 (some 7) (.alloc 2 [.i 0, .i 0]) none,
    .mk4 3 none (.store 2 (.t 7) (.t 24)) none] [0, 1, 2, 4, 5, 7, 19, 20, 21]) (.seq (.region 0 [.mk4 0 (some 25) (.mv (.t 0)) none,
    .mk4 1 (some 26) (.loadN 2 (.t 7)) none,
    .mk4 2 (some 27) (.callv (.t 25) [(.t 26)]) none,
    .mk4 3 (some 28) (.un .not (.t 27)) none] [0, 1, 2, 4, 5, 19, 20, 21, 28]) (.cond (.t 28) (.exit 0) (.skip)))
def c156_1 : AC :=
  .seq (.region 0 [.mk4 0 (some 22) (.bin .lss (.t 21) (.t 20)) none] [0, 1, 2, 4, 5, 19, 20, 21, 22]) (.seq (.cond (.t 22) (.skip) (.exit 2)) (.seq (.block 3 (c156_0)) (.region 0 [.mk4 0 (some 29) (.bin .add (.t 21) (.c (.i 1))) none,
    .mk4 1 (some 21) (.mv (.t 29)) none] [0, 1, 2, 4, 5, 19, 20, 21])))
def c156_2 : AC :=
  .seq (.seq (.region 0 [.mk4 0 (some 30) (.mv (.t 5)) none,
    .mk4 1 (some 31) (.lenL (.t 30)) none,
    .mk4 2 (some 32) (.mv (.t 4)) none,
    .mk4 3 (some 33) (.bin .lss (.t 31) (.t 32)) none,
    .mk4 4 (some 34) (.mv (.t 33)) none,
    .mk4 5 (some 35) (.mv (.t 4)) (some (34, false)),
    .mk4 6 (some 36) (.bin .eql (.t 35) (.c (.i 256))) (some (34, false)),
    .mk4 7 (some 37) (.pick (.t 34) (.c (.bool true)) (.t 36)) none] [0, 1, 2, 4, 37]) (.cond (.t 37) (.exit 0) (.skip))) (.region 0 [.mk4 0 (some 38) (.mv (.t 4)) none,
    .mk4 1 (some 39) (.bin .mul (.c (.i 2)) (.t 38)) none,
    .mk4 2 (some 40) (.minI [(.t 39), (.c (.i 256))]) none,
    .mk4 3 (some 4) (.mv (.t 40)) none] [0, 1, 2, 4])
def c156_3 : AC :=
  .seq (.region 0 [.mk4 0 (some 12) (.load1 (.t 1)) none,
    .mk4 1 (some 13) (.nilck (.t 12)) none,
    .mk4 2 (some 14) (.faddr 1 (.t 13)) none,
    .mk4 3 (some 15) (.load1 (.t 14)) none,
    .mk4 4 (some 16) (.mv (.t 4)) none,
    .mk4 5 (some 17) (.load1 (.t 2)) none,
    .mk4 6 (some 18) (.invoke [(98, 167), (104, 215)] (.t 15) [(.t 16), (.t 17)]) none,
    .mk4 7 (some 5) (.mv (.t 18)) none] [0, 1, 2, 4, 5]) (.seq (.seq (.region 0 [.mk4 0 (some 19) (.mv (.t 5)) none,
    .mk4 1 (some 20) (.lenL (.t 19)) none,
    .mk4 2 (some 21) (.mv (.c (.i 0))) none] [0, 1, 2, 4, 5, 19, 20, 21]) (.block 2 (.loop [0, 1, 2, 4, 5, 19, 20, 21] (c156_1)))) (c156_2))
def c156_4 : AC :=
  .scope (.seq (.region 0 [.mk4 0 (some 8) (.load1 (.t 1)) none,
    .mk4 1 (some 9) (.nilck (.t 8)) none,
    .mk4 2 (some 10) (.faddr 3 (.t 9)) none,
    .mk4 3 (some 11) (.load1 (.t 10)) none,
    .mk4 4 (some 4) (.mv (.t 11)) none] [0, 1, 2, 4]) (.seq (.label 0) (.block 0 (.loop [0, 1, 2, 4] (.block 1 (c156_3))))))
def c156 : AFn := ⟨3, 41, [],
  (c156_4)⟩
def c157_0 : AC :=
  .seq (.region 0 [.mk4 0 (some 3) (.mv (.t 0)) none,
    .mk4 1 (some 4) (.eq .ptr false (.t 3) (.c (.ptr none))) none,
    .mk4 2 (some 5) (.mv (.t 4)) none,
    .mk4 3 (some 6) (.mv (.t 0)) (some (5, false)),
    .mk4 4 (some 7) (.nilck (.t 6)) (some (5, false)),
    .mk4 5 (some 8) (.faddr 192 (.t 7)) (some (5, false)),
    .mk4 6 (some 9) (.load1 (.t 8)) (some (5, false)),
    .mk4 7 (some 10) (.un .not (.t 9)) (some (5, false)),
    .mk4 8 (some 11) (.pick (.t 5) (.c (.bool true)) (.t 10)) none,
    .mk4 9 (some 2) (.mv (.t 11)) none] [2]) (.ret)
def c157 : AFn := ⟨1, 12, [.tmp 2],
  (.seq (.region 0 [.mk4 0 (some 2) (.mv (.c (.bool false))) none] [0]) (c157_0))⟩
def c158_0 : AC :=
  .seq (.region 0 [.mk4 0 (some 3) (.mv (.t 0)) none,
    .mk4 1 (some 4) (.bin .geq (.t 3) (.c (.i 0))) none,
    .mk4 2 (some 5) (.mv (.t 4)) none,
    .mk4 3 (some 6) (.mv (.t 0)) (some (5, true)),
    .mk4 4 (some 7) (.bin .leq (.t 6) (.c (.i 95))) (some (5, true)),
    .mk4 5 (some 8) (.pick (.t 5) (.t 7) (.c (.bool false))) none,
    .mk4 6 (some 2) (.mv (.t 8)) none] [2]) (.ret)
def c158 : AFn := ⟨1, 9, [.tmp 2],
  (.seq (.region 0 [.mk4 0 (some 2) (.mv (.c (.bool false))) none] [0]) (c158_0))⟩
end Am.Sigs
