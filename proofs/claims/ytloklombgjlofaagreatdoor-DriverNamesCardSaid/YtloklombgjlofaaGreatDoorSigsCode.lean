/- The code of roundhouselaw21.DriverNames and of all that they reach, as the abstract machine takes it: printed by a program. -/
import Derived.Test.YtloklombgjlofaaGreatDoorSigsCodeB
set_option maxRecDepth 100000
namespace Am.Sigs
open Am Go
def c250_0 : AC :=
  .seq (.region 0 [.mk4 0 (some 32) (.mv (.t 0)) none,
    .mk4 1 (some 33) (.mv (.t 1)) none,
    .mk4 2 (some 34) (.mv (.t 2)) none,
    .mk4 3 (some 35) (.mv (.t 4)) none,
    .mk4 4 (some 36) (.mv (.t 5)) none,
    .mk4 5 (some 37) (.call 251 [(.t 32), (.t 33), (.t 34), (.t 35), (.t 36)]) none,
    .mk4 6 (some 31) (.mv (.t 37)) none,
    .mk4 7 (some 38) (.extract (.t 31) 0) none,
    .mk4 8 (some 39) (.extract (.t 31) 1) none,
    .mk4 9 (some 1) (.mv (.t 38)) none,
    .mk4 10 (some 2) (.mv (.t 39)) none] [2]) (.seq (.region 0 [.mk4 0 (some 40) (.mv (.t 2)) none,
    .mk4 1 (some 12) (.mv (.t 40)) none] [12]) (.ret))
def c250_1 : AC :=
  .seq (.region 0 [.mk4 0 (some 23) (.mv (.t 0)) none,
    .mk4 1 (some 24) (.mv (.t 2)) none,
    .mk4 2 (some 25) (.mv (.t 3)) none,
    .mk4 3 (some 26) (.mv (.t 4)) none,
    .mk4 4 (some 27) (.mv (.t 5)) none,
    .mk4 5 (some 28) (.call 251 [(.t 23), (.t 24), (.t 25), (.t 26), (.t 27)]) none,
    .mk4 6 (some 22) (.mv (.t 28)) none,
    .mk4 7 (some 29) (.extract (.t 22) 0) none,
    .mk4 8 (some 30) (.extract (.t 22) 1) none,
    .mk4 9 (some 2) (.mv (.t 29)) none,
    .mk4 10 (some 3) (.mv (.t 30)) none] [0, 1, 2, 4, 5]) (c250_0)
def c250_2 : AC :=
  .seq (.region 0 [.mk4 0 (some 14) (.mv (.t 0)) none,
    .mk4 1 (some 15) (.mv (.t 1)) none,
    .mk4 2 (some 16) (.mv (.t 2)) none,
    .mk4 3 (some 17) (.mv (.t 4)) none,
    .mk4 4 (some 18) (.mv (.t 5)) none,
    .mk4 5 (some 19) (.call 251 [(.t 14), (.t 15), (.t 16), (.t 17), (.t 18)]) none,
    .mk4 6 (some 13) (.mv (.t 19)) none,
    .mk4 7 (some 20) (.extract (.t 13) 0) none,
    .mk4 8 (some 21) (.extract (.t 13) 1) none,
    .mk4 9 (some 1) (.mv (.t 20)) none,
    .mk4 10 (some 2) (.mv (.t 21)) none] [0, 1, 2, 3, 4, 5]) (c250_1)
def c250 : AFn := ⟨6, 41, [.tmp 12],
  (.seq (.region 0 [.mk4 0 (some 12) (.mv (.c (.i 0))) none] [0, 1, 2, 3, 4, 5]) (c250_2))⟩
def c251_0 : AC :=
  .seq (.region 0 [.mk4 0 (some 23) (.mv (.t 3)) none,
    .mk4 1 (some 24) (.nilck (.t 23)) none,
    .mk4 2 (some 25) (.load1 (.t 24)) none,
    .mk4 3 (some 26) (.bin .add (.t 25) (.c (.i 1))) none,
    .mk4 4 (some 27) (.nilck (.t 23)) none,
    .mk4 5 none (.store 1 (.t 27) (.t 26)) none] [1, 2]) (.seq (.region 0 [.mk4 0 (some 28) (.mv (.t 2)) none,
    .mk4 1 (some 29) (.mv (.t 1)) none,
    .mk4 2 (some 10) (.mv (.t 28)) none,
    .mk4 3 (some 11) (.mv (.t 29)) none] [10, 11]) (.ret))
def c251_1 : AC :=
  .seq (.seq (.region 0 [.mk4 0 (some 12) (.mv (.t 4)) none,
    .mk4 1 (some 13) (.mv (.t 0)) none,
    .mk4 2 (some 14) (.mv (.t 2)) none,
    .mk4 3 (some 15) (.ixaS 2 (.t 13) (.t 14)) none,
    .mk4 4 (some 16) (.loadN 2 (.t 15)) none,
    .mk4 5 (some 17) (.mv (.t 0)) none,
    .mk4 6 (some 18) (.mv (.t 1)) none,
    .mk4 7 (some 19) (.ixaS 2 (.t 17) (.t 18)) none,
    .mk4 8 (some 20) (.loadN 2 (.t 19)) none,
    .mk4 9 (some 21) (.callv (.t 12) [(.t 16), (.t 20)]) none,
    .mk4 10 (some 22) (.bin .lss (.t 21) (.c (.i 0))) none] [1, 2, 3, 22]) (.cond (.t 22) (c251_0) (.skip))) (.seq (.region 0 [.mk4 0 (some 30) (.mv (.t 1)) none,
    .mk4 1 (some 31) (.mv (.t 2)) none,
    .mk4 2 (some 10) (.mv (.t 30)) none,
    .mk4 3 (some 11) (.mv (.t 31)) none] [10, 11]) (.ret))
def c251 : AFn := ⟨5, 32, [.tmp 10, .tmp 11],
  (.seq (.region 0 [.mk4 0 (some 10) (.mv (.c (.i 0))) none,
    .mk4 1 (some 11) (.mv (.c (.i 0))) none] [0, 1, 2, 3, 4]) (c251_1))⟩
def c254_0 : AC :=
  .seq (.region 0 [.mk4 0 (some 5) (.mv (.t 1)) none,
    .mk4 1 (some 6) (.faddr 0 (.t 2)) none,
    .mk4 2 (some 7) (.loadN 2 (.t 6)) none,
    .mk4 3 (some 8) (.faddr 2 (.t 2)) none,
    .mk4 4 (some 9) (.loadN 2 (.t 8)) none,
    .mk4 6 (some 11) (.faddr 0 (.t 2)) none,
    .mk4 7 (some 12) (.loadN 2 (.t 11)) none,
    .mk4 8 (some 13) (.faddr 2 (.t 2)) none,
    .mk4 9 (some 14) (.loadN 2 (.t 13)) none,
    ⟨5, (some 10), .call 257 [(.t 7), (.t 9)], none, none, [(12, .loadN 2 (.t 11), none), (14, .loadN 2 (.t 13), none)]⟩,
    .mk4 10 (some 15) (.call 256 [(.t 5), (.t 10), (.t 12), (.t 14)]) none,
    .mk4 11 (some 4) (.mv (.t 15)) none] [4]) (.ret)
def c254 : AFn := ⟨2, 16, [.tmp 4],
  (.seq (.region 0 [.mk4 0 (some 2) (.box 4 (.t 0)) none,
    .mk4 1 (some 4) (.mv (.c (.bool false))) none] [1, 2]) (c254_0))⟩
def c255_0 : AC :=
  .region 0 [.mk4 0 (some 54) (.mv (.t 10)) none,
    .mk4 1 (some 55) (.mv (.t 14)) none,
    .mk4 2 (some 56) (.lookup (.leaf (.int .i64)) (.i 0) false (.t 54) (.t 55)) none,
    .mk4 3 (some 57) (.bin .or (.t 56) (.c (.i 4))) none,
    .mk4 4 none (.mput (.leaf (.int .i64)) (.t 54) (.t 55) (.t 57)) none] [10, 48, 49, 50]
def c255_1 : AC :=
  .seq (.block 3 (.seq (.region 0 [.mk4 0 (some 52) (.ixaS 1 (.t 48) (.t 50)) none,
    .mk4 1 (some 53) (.load1 (.t 52)) none,
    .mk4 2 (some 14) (.mv (.t 53)) none] [10, 14, 48, 49, 50]) (c255_0))) (.region 0 [.mk4 0 (some 58) (.bin .add (.t 50) (.c (.i 1))) none,
    .mk4 1 (some 50) (.mv (.t 58)) none] [10, 48, 49, 50])
def c255_2 : AC :=
  .region 0 [.mk4 0 (some 42) (.mv (.t 10)) none,
    .mk4 1 (some 43) (.mv (.t 12)) none,
    .mk4 2 (some 44) (.lookup (.leaf (.int .i64)) (.i 0) false (.t 42) (.t 43)) none,
    .mk4 3 (some 45) (.bin .or (.t 44) (.c (.i 2))) none,
    .mk4 4 none (.mput (.leaf (.int .i64)) (.t 42) (.t 43) (.t 45)) none] [7, 10, 36, 37, 38]
def c255_3 : AC :=
  .seq (.block 1 (.seq (.region 0 [.mk4 0 (some 40) (.ixaS 1 (.t 36) (.t 38)) none,
    .mk4 1 (some 41) (.load1 (.t 40)) none,
    .mk4 2 (some 12) (.mv (.t 41)) none] [7, 10, 12, 36, 37, 38]) (c255_2))) (.region 0 [.mk4 0 (some 46) (.bin .add (.t 38) (.c (.i 1))) none,
    .mk4 1 (some 38) (.mv (.t 46)) none] [7, 10, 36, 37, 38])
def c255_4 : AC :=
  .seq (.seq (.region 0 [.mk4 0 (some 47) (.loadN 2 (.t 7)) none,
    .mk4 1 (some 48) (.call 259 [(.t 47)]) none,
    .mk4 2 (some 49) (.lenL (.t 48)) none,
    .mk4 3 (some 50) (.mv (.c (.i 0))) none] [10, 48, 49, 50]) (.block 2 (.loop [10, 48, 49, 50] (.seq (.region 0 [.mk4 0 (some 51) (.bin .lss (.t 50) (.t 49)) none] [10, 48, 49, 50, 51]) (.seq (.cond (.t 51) (.skip) (.exit 2)) (c255_1)))))) (.seq (.region 0 [.mk4 0 (some 59) (.mv (.t 10)) none,
    .mk4 1 (some 4) (.mv (.t 59)) none,
    .mk4 2 (some 5) (.mv (.c (.i 0))) none] [4, 5]) (.ret))
def c255_5 : AC :=
  .seq (.seq (.region 0 [.mk4 0 (some 35) (.loadN 2 (.t 6)) none,
    .mk4 1 (some 36) (.call 259 [(.t 35)]) none,
    .mk4 2 (some 37) (.lenL (.t 36)) none,
    .mk4 3 (some 38) (.mv (.c (.i 0))) none] [7, 10, 36, 37, 38]) (.block 0 (.loop [7, 10, 36, 37, 38] (.seq (.region 0 [.mk4 0 (some 39) (.bin .lss (.t 38) (.t 37)) none] [7, 10, 36, 37, 38, 39]) (.seq (.cond (.t 39) (.skip) (.exit 0)) (c255_3)))))) (c255_4)
def c255_6 : AC :=
  .seq (.seq (.region 0 [.mk4 0 (some 31) (.mv (.t 9)) none,
    .mk4 1 (some 32) (.bin .neq (.t 31) (.c (.i 0))) none] [6, 7, 9, 32]) (.cond (.t 32) (.seq (.region 0 [.mk4 0 (some 33) (.mv (.t 9)) none,
    .mk4 1 (some 4) (.mv (.c (.map none))) none,
    .mk4 2 (some 5) (.mv (.t 33)) none] [4, 5]) (.ret)) (.skip))) (.seq (.region 0 [.mk4 0 (some 34) (.mkMap) none,
    .mk4 1 (some 10) (.mv (.t 34)) none] [6, 7, 10]) (c255_5))
def c255_7 : AC :=
  .seq (.region 2 [.mk4 0 (some 16) (.mv (.t 1)) none,
    .mk4 1 (some 17) (.faddr 0 (.t 2)) none,
    .mk4 2 (some 18) (.loadN 2 (.t 17)) none,
    .mk4 3 (some 19) (.faddr 2 (.t 2)) none,
    .mk4 4 (some 20) (.loadN 2 (.t 19)) none,
    .mk4 6 (some 22) (.faddr 0 (.t 2)) none,
    .mk4 7 (some 23) (.loadN 2 (.t 22)) none,
    .mk4 8 (some 24) (.faddr 2 (.t 2)) none,
    .mk4 9 (some 25) (.loadN 2 (.t 24)) none,
    ⟨5, (some 21), .call 257 [(.t 18), (.t 20)], none, none, [(23, .loadN 2 (.t 22), none), (25, .loadN 2 (.t 24), none)]⟩,
    .mk4 10 (some 26) (.call 258 [(.t 16), (.t 21), (.t 23), (.t 25)]) none,
    .mk4 11 (some 15) (.mv (.t 26)) none,
    .mk4 12 (some 27) (.extract (.t 15) 0) none,
    .mk4 13 (some 28) (.extract (.t 15) 1) none,
    .mk4 14 (some 29) (.extract (.t 15) 2) none,
    .mk4 15 (some 30) (.extract (.t 15) 3) none,
    ⟨16, (some 6), .alloc 2 [.int .u32 0, .int .u32 0], none, some 0, []⟩,
    ⟨17, (some 7), .alloc 2 [.int .u32 0, .int .u32 0], none, some 1, []⟩,
    .mk4 18 none (.store 2 (.t 6) (.t 27)) none,
    .mk4 19 none (.store 2 (.t 7) (.t 28)) none,
    .mk4 20 (some 8) (.mv (.t 29)) none,
    .mk4 21 (some 9) (.mv (.t 30)) none] [6, 7, 9]) (c255_6)
def c255 : AFn := ⟨2, 60, [.tmp 4, .tmp 5],
  (.seq (.region 0 [.mk4 0 (some 2) (.box 4 (.t 0)) none,
    .mk4 1 (some 4) (.mv (.c (.map none))) none,
    .mk4 2 (some 5) (.mv (.c (.i 0))) none] [1, 2]) (c255_7))⟩
def c256_0 : AC :=
  .seq (.region 0 [.mk4 0 (some 23) (.mv (.t 12)) none,
    .mk4 1 (some 24) (.bin .neq (.t 23) (.c (.i 0))) none,
    .mk4 2 (some 25) (.mv (.t 24)) none,
    .mk4 3 (some 26) (.mv (.t 11)) (some (25, false)),
    .mk4 4 (some 27) (.bin .gtr (.t 26) (.c (.i 0))) (some (25, false)),
    .mk4 5 (some 28) (.pick (.t 25) (.c (.bool true)) (.t 27)) none,
    .mk4 6 (some 8) (.mv (.t 28)) none] [8]) (.ret)
def c256_1 : AC :=
  .seq (.region 0 [.mk4 0 (some 14) (.mv (.t 0)) none,
    .mk4 1 (some 15) (.mv (.t 1)) none,
    .mk4 2 (some 16) (.loadN 2 (.t 6)) none,
    .mk4 3 (some 17) (.loadN 2 (.t 7)) none,
    .mk4 4 (some 18) (.call 258 [(.t 14), (.t 15), (.t 16), (.t 17)]) none,
    .mk4 5 (some 13) (.mv (.t 18)) none,
    .mk4 6 (some 19) (.extract (.t 13) 0) none,
    .mk4 7 (some 20) (.extract (.t 13) 1) none,
    .mk4 8 (some 21) (.extract (.t 13) 2) none,
    .mk4 9 (some 22) (.extract (.t 13) 3) none,
    .mk4 10 (some 9) (.alloc 2 [.int .u32 0, .int .u32 0]) none,
    .mk4 11 (some 10) (.alloc 2 [.int .u32 0, .int .u32 0]) none,
    .mk4 12 none (.store 2 (.t 9) (.t 19)) none,
    .mk4 13 none (.store 2 (.t 10) (.t 20)) none,
    .mk4 14 (some 11) (.mv (.t 21)) none,
    .mk4 15 (some 12) (.mv (.t 22)) none] [11, 12]) (c256_0)
def c256 : AFn := ⟨4, 29, [.tmp 8],
  (.seq (.region 0 [.mk4 0 (some 6) (.box 2 (.t 2)) none,
    .mk4 1 (some 7) (.box 2 (.t 3)) none,
    .mk4 2 (some 8) (.mv (.c (.bool false))) none] [0, 1, 6, 7]) (c256_1))⟩
def c257_0 : AC :=
  .seq (.region 0 [.mk4 0 (some 5) (.loadN 2 (.t 2)) none,
    .mk4 1 (some 6) (.loadN 2 (.t 3)) none,
    .mk4 2 (some 7) (.call 260 [(.t 5), (.t 6)]) none,
    .mk4 3 (some 8) (.call 261 [(.t 7)]) none,
    .mk4 4 (some 9) (.bin .add (.t 8) (.c (.i 1))) none,
    .mk4 5 (some 4) (.mv (.t 9)) none] [4]) (.ret)
def c257 : AFn := ⟨2, 10, [.tmp 4],
  (.seq (.region 0 [.mk4 0 (some 2) (.box 2 (.t 0)) none,
    .mk4 1 (some 3) (.box 2 (.t 1)) none,
    .mk4 2 (some 4) (.mv (.c (.i 0))) none] [2, 3]) (c257_0))⟩
def c258_0 : AC :=
  .seq (.region 0 [.mk4 0 (some 63) (.loadN 2 (.t 9)) none,
    .mk4 1 (some 64) (.mv (.t 12)) none,
    .mk4 2 (some 65) (.call 92 [(.t 63), (.t 64)]) none,
    .mk4 3 (some 62) (.mv (.t 65)) none,
    .mk4 4 (some 66) (.extract (.t 62) 0) none,
    .mk4 5 (some 67) (.extract (.t 62) 1) none,
    .mk4 6 none (.store 2 (.t 9) (.t 66)) none] [10]) (.region 0 [.mk4 0 (some 68) (.load1 (.t 10)) none,
    .mk4 1 (some 69) (.bin .add (.t 68) (.c (.i 1))) none,
    .mk4 2 none (.store 1 (.t 10) (.t 69)) none] [])
def c258_1 : AC :=
  .seq (.region 0 [.mk4 0 (some 52) (.loadN 2 (.t 8)) none,
    .mk4 1 (some 53) (.mv (.t 12)) none,
    .mk4 2 (some 54) (.call 92 [(.t 52), (.t 53)]) none,
    .mk4 3 (some 51) (.mv (.t 54)) none,
    .mk4 4 (some 55) (.extract (.t 51) 0) none,
    .mk4 5 (some 56) (.extract (.t 51) 1) none,
    .mk4 6 none (.store 2 (.t 8) (.t 55)) none] [9, 10, 12, 13]) (.region 0 [.mk4 0 (some 57) (.load1 (.t 10)) none,
    .mk4 1 (some 58) (.bin .add (.t 57) (.c (.i 1))) none,
    .mk4 2 none (.store 1 (.t 10) (.t 58)) none] [9, 10, 12, 13])
def c258_2 : AC :=
  .seq (.seq (.region 0 [.mk4 0 (some 48) (.mv (.t 13)) none,
    .mk4 1 (some 49) (.bin .and (.t 48) (.c (.i 2))) none,
    .mk4 2 (some 50) (.bin .neq (.t 49) (.c (.i 0))) none] [8, 9, 10, 12, 13, 50]) (.cond (.t 50) (c258_1) (.skip))) (.seq (.region 0 [.mk4 0 (some 59) (.mv (.t 13)) none,
    .mk4 1 (some 60) (.bin .and (.t 59) (.c (.i 4))) none,
    .mk4 2 (some 61) (.bin .neq (.t 60) (.c (.i 0))) none] [9, 10, 12, 61]) (.cond (.t 61) (c258_0) (.skip)))
def c258_3 : AC :=
  .seq (.region 0 [.mk4 0 (some 42) (.mv (.t 13)) none,
    .mk4 1 (some 43) (.load1 (.t 4)) none,
    .mk4 2 (some 44) (.mv (.t 12)) none,
    .mk4 3 (some 45) (.call 99 [(.t 43), (.t 44)]) none,
    .mk4 4 (some 46) (.call 264 [(.t 45)]) none,
    .mk4 5 (some 47) (.bin .and (.t 42) (.t 46)) none,
    .mk4 6 (some 13) (.mv (.t 47)) none] [8, 9, 10, 12, 13]) (c258_2)
def c258_4 : AC :=
  .seq (.region 0 [.mk4 0 (some 70) (.loadN 2 (.t 8)) none,
    .mk4 1 (some 71) (.loadN 2 (.t 9)) none,
    .mk4 2 (some 72) (.load1 (.t 10)) none,
    ⟨3, none, .store 2 (.t 8) (.t 70), none, none, [(71, .loadN 2 (.t 9), none), (72, .load1 (.t 10), none)]⟩,
    ⟨4, none, .store 2 (.t 9) (.t 71), none, none, [(72, .load1 (.t 10), none)]⟩,
    .mk4 5 none (.store 1 (.t 10) (.t 72)) none,
    .mk4 6 (some 11) (.mv (.c (.i 0))) none] [8, 9, 10, 11]) (.ret)
def c258_5 : AC :=
  .seq (.region 0 [.mk4 0 (some 34) (.loadN 2 (.t 8)) none,
    .mk4 1 (some 35) (.loadN 2 (.t 9)) none,
    ⟨2, none, .store 2 (.t 8) (.t 34), none, none, [(35, .loadN 2 (.t 9), none)]⟩,
    .mk4 3 none (.store 2 (.t 9) (.t 35)) none,
    .mk4 4 none (.store 1 (.t 10) (.c (.i 0))) none,
    .mk4 5 (some 11) (.mv (.c (.i 110))) none] [8, 9, 10, 11]) (.ret)
def c258_6 : AC :=
  .seq (.region 0 [.mk4 0 (some 26) (.loadN 2 (.t 8)) none,
    .mk4 1 (some 27) (.loadN 2 (.t 9)) none,
    ⟨2, none, .store 2 (.t 8) (.t 26), none, none, [(27, .loadN 2 (.t 9), none)]⟩,
    .mk4 3 none (.store 2 (.t 9) (.t 27)) none,
    .mk4 4 none (.store 1 (.t 10) (.c (.i 0))) none,
    .mk4 5 (some 11) (.mv (.c (.i 2))) none] [8, 9, 10, 11]) (.ret)
def c258_7 : AC :=
  .seq (.region 0 [.mk4 0 (some 29) (.load1 (.t 4)) none,
    .mk4 1 (some 30) (.mv (.t 1)) none,
    .mk4 2 (some 31) (.loadN 2 (.t 6)) none,
    .mk4 3 (some 32) (.loadN 2 (.t 7)) none,
    .mk4 4 (some 33) (.call 262 [(.t 29), (.t 30), (.t 31), (.t 32)]) none,
    .mk4 5 (some 28) (.mv (.t 33)) none] [1, 4, 6, 7, 8, 9, 10, 28]) (.cond (.t 28) (c258_5) (.skip))
def c258_8 : AC :=
  .seq (.region 0 [.mk4 0 (some 17) (.loadN 2 (.t 8)) none,
    .mk4 1 (some 18) (.loadN 2 (.t 9)) none,
    ⟨2, none, .store 2 (.t 8) (.t 17), none, none, [(18, .loadN 2 (.t 9), none)]⟩,
    .mk4 3 none (.store 2 (.t 9) (.t 18)) none,
    .mk4 4 none (.store 1 (.t 10) (.c (.i 0))) none,
    .mk4 5 (some 11) (.mv (.c (.i 1))) none] [8, 9, 10, 11]) (.ret)
def c258_9 : AC :=
  .seq (.region 0 [.mk4 0 (some 20) (.mv (.t 1)) none,
    .mk4 1 (some 21) (.bin .lss (.t 20) (.c (.i 0))) none,
    .mk4 2 (some 22) (.mv (.t 21)) none,
    .mk4 3 (some 23) (.mv (.t 1)) (some (22, false)),
    .mk4 4 (some 24) (.bin .gtr (.t 23) (.c (.i 64))) (some (22, false)),
    .mk4 5 (some 25) (.pick (.t 22) (.c (.bool true)) (.t 24)) none,
    .mk4 6 (some 19) (.mv (.t 25)) none] [1, 4, 6, 7, 8, 9, 10, 19]) (.cond (.t 19) (c258_6) (c258_7))
def c258_10 : AC :=
  .seq (.seq (.region 0 [.mk4 0 (some 36) (.mv (.t 1)) none,
    .mk4 1 (some 37) (.loadN 2 (.t 6)) none,
    .mk4 2 (some 38) (.loadN 2 (.t 7)) none,
    .mk4 3 (some 39) (.call 263 [(.t 36), (.t 37), (.t 38)]) none] [4, 8, 9, 10, 39]) (.block 1 (.rangeFunc (.t 39) [40, 41] [4, 8, 9, 10] (.seq (.region 0 [.mk4 0 (some 12) (.mv (.t 40)) none] [4, 8, 9, 10, 12, 41]) (.region 0 [.mk4 0 (some 13) (.mv (.t 41)) none] [4, 8, 9, 10, 12, 13])) (.block 2 (c258_3))))) (c258_4)
def c258_11 : AC :=
  .seq (.region 0 [.mk4 0 (some 4) (.box 1 (.t 0)) none,
    .mk4 1 (some 6) (.box 2 (.t 2)) none,
    .mk4 2 (some 7) (.box 2 (.t 3)) none,
    .mk4 3 (some 8) (.alloc 2 [.int .u32 0, .int .u32 0]) none,
    .mk4 4 (some 9) (.alloc 2 [.int .u32 0, .int .u32 0]) none,
    .mk4 5 (some 10) (.alloc 1 [.i 0]) none,
    .mk4 6 (some 11) (.mv (.c (.i 0))) none] [1, 4, 6, 7, 8, 9, 10]) (.seq (.block 0 (.seq (.region 0 [.mk4 0 (some 15) (.load1 (.t 4)) none,
    .mk4 1 (some 16) (.eq .ptr false (.t 15) (.c (.ptr none))) none,
    .mk4 2 (some 14) (.mv (.t 16)) none] [1, 4, 6, 7, 8, 9, 10, 14]) (.cond (.t 14) (c258_8) (c258_9)))) (c258_10))
def c258 : AFn := ⟨4, 73, [.cellN 8 2, .cellN 9 2, .cell1 10, .tmp 11],
  (c258_11)⟩
def c259_0 : AC :=
  .seq (.region 0 [.mk4 0 (some 1) (.box 2 (.t 0)) none,
    .mk4 1 (some 2) (.mv (.c (.nils))) none] [1]) (.seq (.region 0 [.mk4 0 (some 3) (.loadN 2 (.t 1)) none,
    .mk4 1 (some 4) (.call 265 [(.t 3)]) none,
    .mk4 2 (some 5) (.call 188 [(.t 4)]) none,
    .mk4 3 (some 2) (.mv (.t 5)) none] [2]) (.ret))
def c259 : AFn := ⟨1, 6, [.tmp 2],
  (c259_0)⟩
def c260_0 : AC :=
  .seq (.region 0 [.mk4 0 (some 5) (.ixaA 2 1 (.t 2) (.c (.i 0))) none,
    .mk4 1 (some 6) (.load1 (.t 5)) none,
    .mk4 2 (some 7) (.ixaA 2 1 (.t 3) (.c (.i 0))) none,
    .mk4 3 (some 8) (.load1 (.t 7)) none,
    .mk4 4 (some 9) (.bin .or (.t 6) (.t 8)) none,
    .mk4 5 (some 10) (.ixaA 2 1 (.t 2) (.c (.i 1))) none,
    .mk4 6 (some 11) (.load1 (.t 10)) none,
    .mk4 7 (some 12) (.ixaA 2 1 (.t 3) (.c (.i 1))) none,
    .mk4 8 (some 13) (.load1 (.t 12)) none,
    .mk4 9 (some 14) (.bin .or (.t 11) (.t 13)) none,
    .mk4 10 (some 15) (.build [.int .u32 0, .int .u32 0] [(0, 1, (.t 9)), (1, 1, (.t 14))]) none,
    .mk4 11 none (.store 2 (.t 4) (.t 15)) none] [4]) (.ret)
def c260 : AFn := ⟨2, 16, [.cellN 4 2],
  (.seq (.region 0 [.mk4 0 (some 2) (.box 2 (.t 0)) none,
    .mk4 1 (some 3) (.box 2 (.t 1)) none,
    .mk4 2 (some 4) (.alloc 2 [.int .u32 0, .int .u32 0]) none] [2, 3, 4]) (c260_0))⟩
def c261_0 : AC :=
  .seq (.region 0 [.mk4 0 (some 6) (.ixaA 2 1 (.t 1) (.c (.i 1))) none,
    .mk4 1 (some 7) (.load1 (.t 6)) none,
    .mk4 2 (some 8) (.call 203 [(.t 7)]) none,
    .mk4 3 (some 9) (.bin .add (.c (.i 32)) (.t 8)) none,
    .mk4 4 (some 10) (.bin .sub (.t 9) (.c (.i 1))) none,
    .mk4 5 (some 2) (.mv (.t 10)) none] [2]) (.ret)
def c261_1 : AC :=
  .seq (.seq (.region 0 [.mk4 0 (some 3) (.ixaA 2 1 (.t 1) (.c (.i 1))) none,
    .mk4 1 (some 4) (.load1 (.t 3)) none,
    .mk4 2 (some 5) (.bin .neq (.t 4) (.c (.int .u32 0))) none] [1, 5]) (.cond (.t 5) (c261_0) (.skip))) (.seq (.region 0 [.mk4 0 (some 11) (.ixaA 2 1 (.t 1) (.c (.i 0))) none,
    .mk4 1 (some 12) (.load1 (.t 11)) none,
    .mk4 2 (some 13) (.call 203 [(.t 12)]) none,
    .mk4 3 (some 14) (.bin .sub (.t 13) (.c (.i 1))) none,
    .mk4 4 (some 2) (.mv (.t 14)) none] [2]) (.ret))
def c261 : AFn := ⟨1, 15, [.tmp 2],
  (.seq (.region 0 [.mk4 0 (some 1) (.box 2 (.t 0)) none,
    .mk4 1 (some 2) (.mv (.c (.i 0))) none] [1]) (c261_1))⟩
def c262_0 : AC :=
  .seq (.region 0 [.mk4 0 (some 17) (.load1 (.t 4)) none,
    .mk4 1 (some 18) (.mv (.t 10)) none,
    .mk4 2 (some 19) (.call 99 [(.t 17), (.t 18)]) none,
    .mk4 3 (some 20) (.field 0 none (.t 19)) none,
    .mk4 4 (some 21) (.un .not (.t 20)) none] [9, 21]) (.cond (.t 21) (.seq (.region 0 [.mk4 0 none (.store 1 (.t 9) (.c (.bool true))) none] []) (.exit 0)) (.skip))
def c262_1 : AC :=
  .seq (.seq (.region 0 [.mk4 0 (some 11) (.mv (.t 1)) none,
    .mk4 1 (some 12) (.loadN 2 (.t 6)) none,
    .mk4 2 (some 13) (.loadN 2 (.t 7)) none,
    .mk4 3 (some 14) (.call 263 [(.t 11), (.t 12), (.t 13)]) none] [4, 9, 14]) (.block 0 (.rangeFunc (.t 14) [15, 16] [4, 9] (.region 0 [.mk4 0 (some 10) (.mv (.t 15)) none] [4, 9, 10]) (.block 1 (c262_0))))) (.seq (.region 0 [.mk4 0 (some 22) (.load1 (.t 9)) none,
    .mk4 1 (some 8) (.mv (.t 22)) none] [8]) (.ret))
def c262_2 : AC :=
  .seq (.region 0 [.mk4 0 (some 4) (.box 1 (.t 0)) none,
    .mk4 1 (some 6) (.box 2 (.t 2)) none,
    .mk4 2 (some 7) (.box 2 (.t 3)) none,
    .mk4 3 (some 8) (.mv (.c (.bool false))) none] [1, 4, 6, 7]) (.scope (.seq (.region 0 [.mk4 0 (some 9) (.alloc 1 [.bool false]) none,
    .mk4 1 none (.store 1 (.t 9) (.c (.bool false))) none] [1, 4, 6, 7, 9]) (.seq (.label 0) (c262_1))))
def c262 : AFn := ⟨4, 23, [.tmp 8],
  (c262_2)⟩
def c263_0 : AC :=
  .seq (.region 0 [.mk4 0 (some 3) (.box 1 (.t 0)) none,
    .mk4 1 (some 4) (.box 2 (.t 1)) none,
    .mk4 2 (some 5) (.box 2 (.t 2)) none,
    .mk4 3 (some 6) (.mv (.c (.nilfn))) none] [3, 4, 5]) (.seq (.region 0 [.mk4 0 (some 7) (.mkClo 266 [(.t 4), (.t 5), (.t 3)]) none,
    .mk4 1 (some 6) (.mv (.t 7)) none] [6]) (.ret))
def c263 : AFn := ⟨3, 8, [.tmp 6],
  (c263_0)⟩
def c264_0 : AC :=
  .seq (.seq (.region 0 [.mk4 0 (some 16) (.faddr 2 (.t 1)) none,
    .mk4 1 (some 17) (.load1 (.t 16)) none,
    .mk4 2 (some 18) (.mv (.t 17)) none,
    .mk4 3 (some 19) (.faddr 3 (.t 1)) (some (18, false)),
    .mk4 4 (some 20) (.load1 (.t 19)) (some (18, false)),
    .mk4 5 (some 21) (.pick (.t 18) (.c (.bool true)) (.t 20)) none,
    .mk4 6 (some 22) (.mv (.t 21)) none,
    .mk4 7 (some 23) (.faddr 4 (.t 1)) (some (22, false)),
    .mk4 8 (some 24) (.load1 (.t 23)) (some (22, false)),
    .mk4 9 (some 25) (.pick (.t 22) (.c (.bool true)) (.t 24)) none] [3, 25]) (.cond (.t 25) (.region 0 [.mk4 0 (some 26) (.mv (.t 3)) none,
    .mk4 1 (some 27) (.bin .or (.t 26) (.c (.i 4))) none,
    .mk4 2 (some 3) (.mv (.t 27)) none] [3]) (.skip))) (.seq (.region 0 [.mk4 0 (some 28) (.mv (.t 3)) none,
    .mk4 1 (some 2) (.mv (.t 28)) none] [2]) (.ret))
def c264_1 : AC :=
  .seq (.seq (.region 0 [.mk4 0 (some 4) (.faddr 1 (.t 1)) none,
    .mk4 1 (some 5) (.load1 (.t 4)) none,
    .mk4 2 (some 6) (.mv (.t 5)) none,
    .mk4 3 (some 7) (.faddr 3 (.t 1)) (some (6, false)),
    .mk4 4 (some 8) (.load1 (.t 7)) (some (6, false)),
    .mk4 5 (some 9) (.pick (.t 6) (.c (.bool true)) (.t 8)) none,
    .mk4 6 (some 10) (.mv (.t 9)) none,
    .mk4 7 (some 11) (.faddr 4 (.t 1)) (some (10, false)),
    .mk4 8 (some 12) (.load1 (.t 11)) (some (10, false)),
    .mk4 9 (some 13) (.pick (.t 10) (.c (.bool true)) (.t 12)) none] [1, 3, 13]) (.cond (.t 13) (.region 0 [.mk4 0 (some 14) (.mv (.t 3)) none,
    .mk4 1 (some 15) (.bin .or (.t 14) (.c (.i 2))) none,
    .mk4 2 (some 3) (.mv (.t 15)) none] [1, 3]) (.skip))) (c264_0)
def c264 : AFn := ⟨1, 29, [.tmp 2],
  (.seq (.region 0 [.mk4 0 (some 1) (.box 7 (.t 0)) none,
    .mk4 1 (some 2) (.mv (.c (.i 0))) none] [1]) (.seq (.region 0 [.mk4 0 (some 3) (.mv (.c (.i 0))) none] [1, 3]) (c264_1)))⟩
def c265 : AFn := ⟨1, 4, [.tmp 2],
  (.seq (.region 0 [.mk4 0 (some 1) (.box 2 (.t 0)) none,
    .mk4 1 (some 2) (.mv (.c (.nilfn))) none] [1]) (.seq (.region 0 [.mk4 0 (some 3) (.mkClo 269 [(.t 1)]) none,
    .mk4 1 (some 2) (.mv (.t 3)) none] [2]) (.ret)))⟩
def c266_0 : AC :=
  .seq (.seq (.region 0 [.mk4 0 (some 24) (.loadN 2 (.t 2)) none,
    .mk4 1 (some 25) (.mv (.t 6)) none,
    .mk4 2 (some 26) (.call 268 [(.t 24), (.t 25)]) none] [0, 1, 2, 6, 7, 13, 14, 15, 26]) (.cond (.t 26) (.region 0 [.mk4 0 (some 27) (.mv (.t 7)) none,
    .mk4 1 (some 28) (.bin .or (.t 27) (.c (.i 4))) none,
    .mk4 2 (some 7) (.mv (.t 28)) none] [0, 1, 2, 6, 7, 13, 14, 15]) (.skip))) (.seq (.region 0 [.mk4 0 (some 29) (.mv (.t 0)) none,
    .mk4 1 (some 30) (.mv (.t 6)) none,
    .mk4 2 (some 31) (.mv (.t 7)) none,
    .mk4 3 (some 32) (.callv (.t 29) [(.t 30), (.t 31)]) none,
    .mk4 4 (some 33) (.un .not (.t 32)) none] [0, 1, 2, 13, 14, 15, 33]) (.cond (.t 33) (.ret) (.skip)))
def c266_1 : AC :=
  .seq (.seq (.region 0 [.mk4 0 (some 19) (.loadN 2 (.t 1)) none,
    .mk4 1 (some 20) (.mv (.t 6)) none,
    .mk4 2 (some 21) (.call 268 [(.t 19), (.t 20)]) none] [0, 1, 2, 6, 7, 13, 14, 15, 21]) (.cond (.t 21) (.region 0 [.mk4 0 (some 22) (.mv (.t 7)) none,
    .mk4 1 (some 23) (.bin .or (.t 22) (.c (.i 2))) none,
    .mk4 2 (some 7) (.mv (.t 23)) none] [0, 1, 2, 6, 7, 13, 14, 15]) (.skip))) (c266_0)
def c266_2 : AC :=
  .seq (.block 1 (.seq (.region 0 [.mk4 0 (some 17) (.ixaS 1 (.t 13) (.t 15)) none,
    .mk4 1 (some 18) (.load1 (.t 17)) none,
    .mk4 2 (some 6) (.mv (.t 18)) none] [0, 1, 2, 6, 13, 14, 15]) (.seq (.region 0 [.mk4 0 (some 7) (.mv (.c (.i 0))) none] [0, 1, 2, 6, 7, 13, 14, 15]) (c266_1)))) (.region 0 [.mk4 0 (some 34) (.bin .add (.t 15) (.c (.i 1))) none,
    .mk4 1 (some 15) (.mv (.t 34)) none] [0, 1, 2, 13, 14, 15])
def c266_3 : AC :=
  .seq (.region 0 [.mk4 0 (some 8) (.loadN 2 (.t 1)) none,
    .mk4 1 (some 9) (.loadN 2 (.t 2)) none,
    .mk4 3 (some 11) (.load1 (.t 3)) none,
    .mk4 7 (some 15) (.mv (.c (.i 0))) none,
    ⟨2, (some 10), .call 260 [(.t 8), (.t 9)], none, none, [(11, .load1 (.t 3), none)]⟩,
    .mk4 4 (some 12) (.call 267 [(.t 10), (.t 11)]) none,
    .mk4 5 (some 13) (.call 259 [(.t 12)]) none,
    .mk4 6 (some 14) (.lenL (.t 13)) none] [0, 1, 2, 13, 14, 15]) (.block 0 (.loop [0, 1, 2, 13, 14, 15] (.seq (.region 0 [.mk4 0 (some 16) (.bin .lss (.t 15) (.t 14)) none] [0, 1, 2, 13, 14, 15, 16]) (.seq (.cond (.t 16) (.skip) (.exit 0)) (c266_2)))))
def c266 : AFn := ⟨4, 35, [],
  (c266_3)⟩
def c267_0 : AC :=
  .seq (.region 0 [.mk4 0 (some 9) (.mv (.t 5)) none,
    .mk4 1 (some 10) (.load1 (.t 3)) none,
    .mk4 2 (some 11) (.bin .geq (.t 9) (.t 10)) none] [2, 5, 11]) (.cond (.t 11) (.region 0 [.mk4 0 (some 12) (.loadN 2 (.t 2)) none,
    .mk4 1 (some 13) (.mv (.t 5)) none,
    .mk4 2 (some 14) (.call 270 [(.t 12), (.t 13)]) none,
    .mk4 3 none (.store 2 (.t 2) (.t 14)) none] []) (.skip))
def c267_1 : AC :=
  .seq (.seq (.region 0 [.mk4 0 (some 6) (.loadN 2 (.t 2)) none,
    .mk4 1 (some 7) (.call 265 [(.t 6)]) none] [2, 3, 4, 7]) (.block 0 (.rangeFunc (.t 7) [8] [2, 3] (.region 0 [.mk4 0 (some 5) (.mv (.t 8)) none] [2, 3, 5]) (.block 1 (c267_0))))) (.seq (.region 0 [.mk4 0 (some 15) (.loadN 2 (.t 2)) none,
    .mk4 1 none (.store 2 (.t 4) (.t 15)) none] [4]) (.ret))
def c267 : AFn := ⟨2, 16, [.cellN 4 2],
  (.seq (.region 0 [.mk4 0 (some 2) (.box 2 (.t 0)) none,
    .mk4 1 (some 3) (.box 1 (.t 1)) none,
    .mk4 2 (some 4) (.alloc 2 [.int .u32 0, .int .u32 0]) none] [2, 3, 4]) (c267_1))⟩
def c268_0 : AC :=
  .seq (.region 0 [.mk4 0 (some 5) (.mv (.t 1)) none,
    .mk4 1 (some 6) (.call 104 [(.t 5)]) none,
    .mk4 2 (some 7) (.mv (.t 6)) none,
    .mk4 3 (some 8) (.mv (.t 1)) (some (7, true)),
    .mk4 4 (some 9) (.bin .quo (.t 8) (.c (.i 32))) (some (7, true)),
    .mk4 5 (some 10) (.ixaA 2 1 (.t 2) (.t 9)) (some (7, true)),
    .mk4 6 (some 11) (.load1 (.t 10)) (some (7, true)),
    .mk4 7 (some 12) (.mv (.t 1)) (some (7, true)),
    .mk4 8 (some 13) (.bin .rem (.t 12) (.c (.i 32))) (some (7, true)),
    .mk4 9 (some 14) (.bin .shr (.t 11) (.t 13)) (some (7, true)),
    .mk4 10 (some 15) (.bin .and (.t 14) (.c (.int .u32 1))) (some (7, true)),
    .mk4 11 (some 16) (.bin .eql (.t 15) (.c (.int .u32 1))) (some (7, true)),
    .mk4 12 (some 17) (.pick (.t 7) (.t 16) (.c (.bool false))) none,
    .mk4 13 (some 4) (.mv (.t 17)) none] [4]) (.ret)
def c268 : AFn := ⟨2, 18, [.tmp 4],
  (.seq (.region 0 [.mk4 0 (some 2) (.box 2 (.t 0)) none,
    .mk4 1 (some 4) (.mv (.c (.bool false))) none] [1, 2]) (c268_0))⟩
def c269_0 : AC :=
  .seq (.region 0 [.mk4 0 (some 7) (.loadN 2 (.t 1)) none,
    .mk4 1 (some 8) (.mv (.t 3)) none,
    .mk4 2 (some 9) (.call 268 [(.t 7), (.t 8)]) none,
    .mk4 3 (some 10) (.mv (.t 9)) none,
    .mk4 4 (some 11) (.mv (.t 0)) (some (10, true)),
    .mk4 5 (some 12) (.mv (.t 3)) (some (10, true)),
    .mk4 6 (some 13) (.callv (.t 11) [(.t 12)]) (some (10, true)),
    .mk4 7 (some 14) (.un .not (.t 13)) (some (10, true)),
    .mk4 8 (some 15) (.pick (.t 10) (.t 14) (.c (.bool false))) none] [0, 1, 4, 15]) (.cond (.t 15) (.ret) (.skip))
def c269_1 : AC :=
  .seq (.region 0 [.mk4 0 (some 5) (.bin .lss (.t 4) (.c (.i 64))) none] [0, 1, 4, 5]) (.seq (.cond (.t 5) (.skip) (.exit 0)) (.seq (.block 1 (.seq (.region 0 [.mk4 0 (some 6) (.mv (.t 4)) none,
    .mk4 1 (some 3) (.mv (.t 6)) none] [0, 1, 3, 4]) (c269_0))) (.region 0 [.mk4 0 (some 16) (.bin .add (.t 4) (.c (.i 1))) none,
    .mk4 1 (some 4) (.mv (.t 16)) none] [0, 1, 4])))
def c269 : AFn := ⟨2, 17, [],
  (.seq (.region 0 [.mk4 0 (some 4) (.mv (.c (.i 0))) none] [0, 1, 4]) (.block 0 (.loop [0, 1, 4] (c269_1))))⟩
def c270_0 : AC :=
  .region 0 [.mk4 0 (some 7) (.mv (.t 1)) none,
    .mk4 1 (some 8) (.bin .quo (.t 7) (.c (.i 32))) none,
    .mk4 2 (some 9) (.ixaA 2 1 (.t 2) (.t 8)) none,
    .mk4 3 (some 10) (.load1 (.t 9)) none,
    .mk4 4 (some 11) (.mv (.t 1)) none,
    .mk4 5 (some 12) (.bin .rem (.t 11) (.c (.i 32))) none,
    .mk4 6 (some 13) (.bin .shl (.c (.int .u32 1)) (.t 12)) none,
    .mk4 7 (some 14) (.bin .andNot (.t 10) (.t 13)) none,
    .mk4 8 (some 15) (.ixaA 2 1 (.t 2) (.t 8)) none,
    .mk4 9 none (.store 1 (.t 15) (.t 14)) none] [2, 4]
def c270_1 : AC :=
  .seq (.region 0 [.mk4 0 (some 2) (.box 2 (.t 0)) none,
    .mk4 1 (some 4) (.alloc 2 [.int .u32 0, .int .u32 0]) none] [1, 2, 4]) (.seq (.seq (.region 0 [.mk4 0 (some 5) (.mv (.t 1)) none,
    .mk4 1 (some 6) (.call 104 [(.t 5)]) none] [1, 2, 4, 6]) (.cond (.t 6) (c270_0) (.skip))) (.seq (.region 0 [.mk4 0 (some 16) (.loadN 2 (.t 2)) none,
    .mk4 1 none (.store 2 (.t 4) (.t 16)) none] [4]) (.ret)))
def c270 : AFn := ⟨2, 17, [.cellN 4 2],
  (c270_1)⟩
def c271 : AFn := ⟨2, 8, [.tmp 4],
  (.seq (.region 0 [.mk4 0 (some 4) (.mv (.c (.bool false))) none] [0, 1]) (.seq (.region 0 [.mk4 0 (some 5) (.mv (.t 1)) none,
    .mk4 1 (some 6) (.mv (.t 0)) none,
    .mk4 2 (some 7) (.call 273 [(.t 5), (.t 6)]) none,
    .mk4 3 (some 4) (.mv (.t 7)) none] [4]) (.ret)))⟩
def c272_0 : AC :=
  .region 0 [.mk4 0 (some 57) (.mv (.t 9)) none,
    .mk4 1 (some 58) (.mv (.t 0)) none,
    .mk4 2 (some 59) (.mv (.t 10)) none,
    .mk4 3 (some 60) (.ixaS 2 (.t 58) (.t 59)) none,
    .mk4 4 (some 61) (.faddr 0 (.t 60)) none,
    .mk4 5 (some 62) (.load1 (.t 61)) none,
    .mk4 6 (some 63) (.mv (.t 13)) none,
    .mk4 7 none (.mput (.leaf (.int .i64)) (.t 57) (.t 62) (.t 63)) none] [0, 8, 9, 23, 24, 25]
def c272_1 : AC :=
  .seq (.seq (.region 0 [.mk4 0 (some 54) (.mv (.t 14)) none,
    .mk4 1 (some 55) (.bin .neq (.t 54) (.c (.i 0))) none] [0, 8, 9, 10, 13, 14, 23, 24, 25, 55]) (.cond (.t 55) (.seq (.region 0 [.mk4 0 (some 56) (.mv (.t 14)) none,
    .mk4 1 (some 4) (.mv (.c (.map none))) none,
    .mk4 2 (some 5) (.mv (.t 56)) none] [4, 5]) (.ret)) (.skip))) (c272_0)
def c272_2 : AC :=
  .seq (.region 0 [.mk4 0 (some 49) (.mv (.t 12)) none,
    .mk4 1 (some 50) (.mv (.t 11)) none,
    .mk4 2 (some 51) (.call 275 [(.t 49), (.t 50)]) none,
    .mk4 3 (some 48) (.mv (.t 51)) none,
    .mk4 4 (some 52) (.extract (.t 48) 0) none,
    .mk4 5 (some 53) (.extract (.t 48) 1) none,
    .mk4 6 (some 13) (.mv (.t 52)) none,
    .mk4 7 (some 14) (.mv (.t 53)) none] [0, 8, 9, 10, 13, 14, 23, 24, 25]) (c272_1)
def c272_3 : AC :=
  .seq (.seq (.region 0 [.mk4 0 (some 39) (.mv (.t 0)) none,
    .mk4 1 (some 40) (.mv (.t 10)) none,
    .mk4 2 (some 41) (.ixaS 2 (.t 39) (.t 40)) none,
    .mk4 3 (some 42) (.faddr 1 (.t 41)) none,
    .mk4 4 (some 43) (.load1 (.t 42)) none,
    .mk4 5 (some 44) (.bin .and (.t 43) (.c (.i 4))) none,
    .mk4 6 (some 45) (.bin .neq (.t 44) (.c (.i 0))) none] [0, 8, 9, 10, 11, 12, 23, 24, 25, 45]) (.cond (.t 45) (.region 0 [.mk4 0 (some 46) (.mv (.t 12)) none,
    .mk4 1 (some 47) (.bin .or (.t 46) (.c (.i 4))) none,
    .mk4 2 (some 12) (.mv (.t 47)) none] [0, 8, 9, 10, 11, 12, 23, 24, 25]) (.skip))) (c272_2)
def c272_4 : AC :=
  .seq (.seq (.region 0 [.mk4 0 (some 30) (.mv (.t 0)) none,
    .mk4 1 (some 31) (.mv (.t 10)) none,
    .mk4 2 (some 32) (.ixaS 2 (.t 30) (.t 31)) none,
    .mk4 3 (some 33) (.faddr 1 (.t 32)) none,
    .mk4 4 (some 34) (.load1 (.t 33)) none,
    .mk4 5 (some 35) (.bin .and (.t 34) (.c (.i 1))) none,
    .mk4 6 (some 36) (.bin .neq (.t 35) (.c (.i 0))) none] [0, 8, 9, 10, 11, 12, 23, 24, 25, 36]) (.cond (.t 36) (.region 0 [.mk4 0 (some 37) (.mv (.t 12)) none,
    .mk4 1 (some 38) (.bin .or (.t 37) (.c (.i 2))) none,
    .mk4 2 (some 12) (.mv (.t 38)) none] [0, 8, 9, 10, 11, 12, 23, 24, 25]) (.skip))) (c272_3)
def c272_5 : AC :=
  .seq (.region 0 [.mk4 0 (some 27) (.mv (.t 25)) none,
    .mk4 1 (some 28) (.ixaS 1 (.t 23) (.t 25)) none,
    .mk4 2 (some 29) (.load1 (.t 28)) none,
    .mk4 3 (some 10) (.mv (.t 27)) none,
    .mk4 4 (some 11) (.mv (.t 29)) none] [0, 8, 9, 10, 11, 23, 24, 25]) (.seq (.region 0 [.mk4 0 (some 12) (.mv (.c (.i 0))) none] [0, 8, 9, 10, 11, 12, 23, 24, 25]) (c272_4))
def c272_6 : AC :=
  .loop [0, 8, 9, 23, 24, 25] (.seq (.region 0 [.mk4 0 (some 26) (.bin .lss (.t 25) (.t 24)) none] [0, 8, 9, 23, 24, 25, 26]) (.seq (.cond (.t 26) (.skip) (.exit 0)) (.seq (.block 1 (c272_5)) (.region 0 [.mk4 0 (some 64) (.bin .add (.t 25) (.c (.i 1))) none,
    .mk4 1 (some 25) (.mv (.t 64)) none] [0, 8, 9, 23, 24, 25]))))
def c272_7 : AC :=
  .seq (.seq (.region 0 [.mk4 0 (some 23) (.mv (.t 6)) none,
    .mk4 1 (some 24) (.lenL (.t 23)) none,
    .mk4 2 (some 25) (.mv (.c (.i 0))) none] [0, 8, 9, 23, 24, 25]) (.block 0 (c272_6))) (.seq (.region 0 [.mk4 0 (some 65) (.mv (.t 9)) none,
    .mk4 1 (some 66) (.mv (.t 8)) none,
    .mk4 2 (some 4) (.mv (.t 65)) none,
    .mk4 3 (some 5) (.mv (.t 66)) none] [4, 5]) (.ret))
def c272_8 : AC :=
  .seq (.region 0 [.mk4 0 (some 16) (.mv (.t 1)) none,
    .mk4 1 (some 17) (.mv (.t 0)) none,
    .mk4 2 (some 18) (.call 274 [(.t 16), (.t 17)]) none,
    .mk4 3 (some 15) (.mv (.t 18)) none,
    .mk4 4 (some 19) (.extract (.t 15) 0) none,
    .mk4 5 (some 20) (.extract (.t 15) 1) none,
    .mk4 6 (some 21) (.extract (.t 15) 2) none,
    .mk4 7 (some 6) (.mv (.t 19)) none,
    .mk4 8 (some 7) (.mv (.t 20)) none,
    .mk4 9 (some 8) (.mv (.t 21)) none] [0, 6, 8]) (.seq (.region 0 [.mk4 0 (some 22) (.mkMap) none,
    .mk4 1 (some 9) (.mv (.t 22)) none] [0, 6, 8, 9]) (c272_7))
def c272 : AFn := ⟨2, 67, [.tmp 4, .tmp 5],
  (.seq (.region 0 [.mk4 0 (some 4) (.mv (.c (.map none))) none,
    .mk4 1 (some 5) (.mv (.c (.i 0))) none] [0, 1]) (c272_8))⟩
def c273_0 : AC :=
  .rangeFunc (.t 13) [14] [5] (.region 0 [.mk4 0 (some 6) (.mv (.t 14)) none] [5, 6]) (.block 1 (.seq (.region 0 [.mk4 0 (some 15) (.mv (.t 6)) none,
    .mk4 1 (some 16) (.bin .neq (.t 15) (.c (.i 0))) none] [5, 16]) (.cond (.t 16) (.seq (.region 0 [.mk4 0 none (.store 1 (.t 5) (.c (.bool true))) none] []) (.exit 0)) (.skip))))
def c273_1 : AC :=
  .seq (.label 0) (.seq (.seq (.region 0 [.mk4 0 (some 11) (.mv (.t 0)) none,
    .mk4 1 (some 12) (.mv (.t 1)) none,
    .mk4 2 (some 13) (.call 277 [(.t 11), (.t 12)]) none] [5, 13]) (.block 0 (c273_0))) (.seq (.region 0 [.mk4 0 (some 17) (.load1 (.t 5)) none,
    .mk4 1 (some 4) (.mv (.t 17)) none] [4]) (.ret)))
def c273_2 : AC :=
  .scope (.seq (.seq (.region 0 [.mk4 0 (some 7) (.mv (.t 0)) none,
    .mk4 1 (some 8) (.mv (.t 1)) none,
    .mk4 2 (some 9) (.call 276 [(.t 7), (.t 8)]) none,
    .mk4 3 (some 10) (.bin .neq (.t 9) (.c (.i 0))) none] [0, 1, 10]) (.cond (.t 10) (.seq (.region 0 [.mk4 0 (some 4) (.mv (.c (.bool true))) none] [4]) (.ret)) (.skip))) (.seq (.region 0 [.mk4 0 (some 5) (.alloc 1 [.bool false]) none,
    .mk4 1 none (.store 1 (.t 5) (.c (.bool false))) none] [0, 1, 5]) (c273_1)))
def c273 : AFn := ⟨2, 18, [.tmp 4],
  (.seq (.region 0 [.mk4 0 (some 4) (.mv (.c (.bool false))) none] [0, 1]) (c273_2))⟩
def c274_0 : AC :=
  .seq (.region 0 [.mk4 0 (some 21) (.load1 (.t 8)) none,
    .mk4 1 (some 22) (.mv (.t 10)) none,
    .mk4 2 (some 23) (.bslice 1 1 [.i 0] [(0, (.t 22))]) none,
    .mk4 3 (some 24) (.append 1 8 (.t 21) (.t 23)) none,
    .mk4 4 none (.store 1 (.t 8) (.t 24)) none] [9, 10]) (.region 0 [.mk4 0 (some 25) (.load1 (.t 9)) none,
    .mk4 1 (some 26) (.mv (.t 10)) none,
    .mk4 2 (some 27) (.minI [(.t 26), (.c (.i 1))]) none,
    .mk4 3 (some 28) (.bin .add (.t 25) (.t 27)) none,
    .mk4 4 none (.store 1 (.t 9) (.t 28)) none] [])
def c274_1 : AC :=
  .seq (.seq (.region 0 [.mk4 0 (some 17) (.mv (.t 0)) none,
    .mk4 1 (some 18) (.mv (.t 1)) none,
    .mk4 2 (some 19) (.call 277 [(.t 17), (.t 18)]) none] [8, 9, 19]) (.block 0 (.rangeFunc (.t 19) [20] [8, 9] (.region 0 [.mk4 0 (some 10) (.mv (.t 20)) none] [8, 9, 10]) (.block 1 (c274_0))))) (.seq (.region 0 [.mk4 0 (some 29) (.load1 (.t 8)) none,
    .mk4 1 (some 30) (.load1 (.t 9)) none,
    .mk4 2 (some 4) (.mv (.t 29)) none,
    .mk4 3 (some 5) (.mv (.t 30)) none,
    .mk4 4 (some 6) (.mv (.c (.i 0))) none] [4, 5, 6]) (.ret))
def c274_2 : AC :=
  .seq (.region 0 [.mk4 0 (some 14) (.mv (.t 7)) none,
    .mk4 1 (some 15) (.bin .neq (.t 14) (.c (.i 0))) none] [0, 1, 7, 15]) (.cond (.t 15) (.seq (.region 0 [.mk4 0 (some 16) (.mv (.t 7)) none,
    .mk4 1 (some 4) (.mv (.c (.nils))) none,
    .mk4 2 (some 5) (.mv (.c (.i 0))) none,
    .mk4 3 (some 6) (.mv (.t 16)) none] [4, 5, 6]) (.ret)) (.skip))
def c274_3 : AC :=
  .seq (.seq (.region 0 [.mk4 0 (some 11) (.mv (.t 0)) none,
    .mk4 1 (some 12) (.mv (.t 1)) none,
    .mk4 2 (some 13) (.call 276 [(.t 11), (.t 12)]) none,
    .mk4 3 (some 7) (.mv (.t 13)) none] [0, 1, 7]) (c274_2)) (.seq (.region 0 [.mk4 0 (some 8) (.alloc 1 [.nils]) none] [0, 1, 8]) (.seq (.region 0 [.mk4 0 (some 9) (.alloc 1 [.i 0]) none,
    .mk4 1 none (.store 1 (.t 9) (.c (.i 0))) none] [0, 1, 8, 9]) (c274_1)))
def c274 : AFn := ⟨2, 31, [.tmp 4, .tmp 5, .tmp 6],
  (.seq (.region 0 [.mk4 0 (some 4) (.mv (.c (.nils))) none,
    .mk4 1 (some 5) (.mv (.c (.i 0))) none,
    .mk4 2 (some 6) (.mv (.c (.i 0))) none] [0, 1]) (c274_3))⟩
def c275_0 : AC :=
  .seq (.seq (.region 0 [.mk4 0 (some 15) (.mv (.t 1)) none,
    .mk4 1 (some 16) (.bin .and (.t 15) (.c (.i 28))) none,
    .mk4 2 (some 17) (.bin .neq (.t 16) (.c (.i 0))) none] [0, 6, 17]) (.cond (.t 17) (.region 0 [.mk4 0 (some 18) (.mv (.t 6)) none,
    .mk4 1 (some 19) (.bin .or (.t 18) (.c (.i 4))) none,
    .mk4 2 (some 6) (.mv (.t 19)) none] [0, 6]) (.skip))) (.seq (.region 0 [.mk4 0 (some 20) (.mv (.t 6)) none,
    .mk4 1 (some 21) (.mv (.t 0)) none,
    .mk4 2 (some 22) (.bin .and (.t 20) (.t 21)) none,
    .mk4 3 (some 4) (.mv (.t 22)) none,
    .mk4 4 (some 5) (.mv (.c (.i 0))) none] [4, 5]) (.ret))
def c275_1 : AC :=
  .seq (.seq (.region 0 [.mk4 0 (some 10) (.mv (.t 1)) none,
    .mk4 1 (some 11) (.bin .and (.t 10) (.c (.i 25))) none,
    .mk4 2 (some 12) (.bin .neq (.t 11) (.c (.i 0))) none] [0, 1, 6, 12]) (.cond (.t 12) (.region 0 [.mk4 0 (some 13) (.mv (.t 6)) none,
    .mk4 1 (some 14) (.bin .or (.t 13) (.c (.i 2))) none,
    .mk4 2 (some 6) (.mv (.t 14)) none] [0, 1, 6]) (.skip))) (c275_0)
def c275_2 : AC :=
  .seq (.seq (.region 0 [.mk4 0 (some 7) (.mv (.t 1)) none,
    .mk4 1 (some 8) (.bin .and (.t 7) (.c (.i 32))) none,
    .mk4 2 (some 9) (.bin .neq (.t 8) (.c (.i 0))) none] [0, 1, 9]) (.cond (.t 9) (.seq (.region 0 [.mk4 0 (some 4) (.mv (.c (.i 0))) none,
    .mk4 1 (some 5) (.mv (.c (.i 110))) none] [4, 5]) (.ret)) (.skip))) (.seq (.region 0 [.mk4 0 (some 6) (.mv (.c (.i 0))) none] [0, 1, 6]) (c275_1))
def c275 : AFn := ⟨2, 23, [.tmp 4, .tmp 5],
  (.seq (.region 0 [.mk4 0 (some 4) (.mv (.c (.i 0))) none,
    .mk4 1 (some 5) (.mv (.c (.i 0))) none] [0, 1]) (c275_2))⟩
def c276_0 : AC :=
  .seq (.region 0 [.mk4 0 (some 18) (.faddr 1 (.t 6)) none,
    .mk4 1 (some 19) (.load1 (.t 18)) none,
    .mk4 2 (some 20) (.bin .andNot (.t 19) (.c (.i 5))) none,
    .mk4 3 (some 21) (.bin .neq (.t 20) (.c (.i 0))) none] [12, 13, 14, 21]) (.cond (.t 21) (.seq (.region 0 [.mk4 0 (some 4) (.mv (.c (.i 2))) none] [4]) (.ret)) (.skip))
def c276_1 : AC :=
  .seq (.block 1 (.seq (.region 0 [.mk4 0 (some 16) (.ixaS 2 (.t 12) (.t 14)) none,
    .mk4 1 (some 17) (.loadN 2 (.t 16)) none,
    .mk4 2 (some 6) (.alloc 2 [.i 0, .i 0]) none,
    .mk4 3 none (.store 2 (.t 6) (.t 17)) none] [6, 12, 13, 14]) (c276_0))) (.region 0 [.mk4 0 (some 22) (.bin .add (.t 14) (.c (.i 1))) none,
    .mk4 1 (some 14) (.mv (.t 22)) none] [12, 13, 14])
def c276_2 : AC :=
  .seq (.seq (.region 0 [.mk4 0 (some 12) (.mv (.t 1)) none,
    .mk4 1 (some 13) (.lenL (.t 12)) none,
    .mk4 2 (some 14) (.mv (.c (.i 0))) none] [12, 13, 14]) (.block 0 (.loop [12, 13, 14] (.seq (.region 0 [.mk4 0 (some 15) (.bin .lss (.t 14) (.t 13)) none] [12, 13, 14, 15]) (.seq (.cond (.t 15) (.skip) (.exit 0)) (c276_1)))))) (.seq (.region 0 [.mk4 0 (some 4) (.mv (.c (.i 0))) none] [4]) (.ret))
def c276_3 : AC :=
  .seq (.seq (.region 0 [.mk4 0 (some 7) (.mv (.t 0)) none,
    .mk4 1 (some 8) (.eq .ptr false (.t 7) (.c (.ptr none))) none] [1, 8]) (.cond (.t 8) (.seq (.region 0 [.mk4 0 (some 4) (.mv (.c (.i 1))) none] [4]) (.ret)) (.skip))) (.seq (.seq (.region 0 [.mk4 0 (some 9) (.mv (.t 1)) none,
    .mk4 1 (some 10) (.lenL (.t 9)) none,
    .mk4 2 (some 11) (.bin .gtr (.t 10) (.c (.i 96))) none] [1, 11]) (.cond (.t 11) (.seq (.region 0 [.mk4 0 (some 4) (.mv (.c (.i 2))) none] [4]) (.ret)) (.skip))) (c276_2))
def c276 : AFn := ⟨2, 23, [.tmp 4],
  (.seq (.region 0 [.mk4 0 (some 4) (.mv (.c (.i 0))) none] [0, 1]) (c276_3))⟩
def c277 : AFn := ⟨2, 6, [.tmp 4],
  (.seq (.region 0 [.mk4 0 (some 2) (.box 1 (.t 0)) none,
    .mk4 1 (some 3) (.box 1 (.t 1)) none,
    .mk4 2 (some 4) (.mv (.c (.nilfn))) none] [2, 3]) (.seq (.region 0 [.mk4 0 (some 5) (.mkClo 278 [(.t 3), (.t 2)]) none,
    .mk4 1 (some 4) (.mv (.t 5)) none] [4]) (.ret)))⟩
def c278_0 : AC :=
  .seq (.region 0 [.mk4 0 (some 12) (.mv (.t 0)) none,
    .mk4 1 (some 13) (.load1 (.t 2)) none,
    .mk4 2 (some 14) (.loadN 2 (.t 5)) none,
    .mk4 3 (some 15) (.call 279 [(.t 13), (.t 14)]) none,
    .mk4 4 (some 16) (.callv (.t 12) [(.t 15)]) none,
    .mk4 5 (some 17) (.un .not (.t 16)) none] [0, 2, 6, 7, 8, 17]) (.cond (.t 17) (.ret) (.skip))
def c278_1 : AC :=
  .seq (.block 1 (.seq (.region 0 [.mk4 0 (some 10) (.ixaS 2 (.t 6) (.t 8)) none,
    .mk4 1 (some 11) (.loadN 2 (.t 10)) none,
    .mk4 2 (some 5) (.alloc 2 [.i 0, .i 0]) none,
    .mk4 3 none (.store 2 (.t 5) (.t 11)) none] [0, 2, 5, 6, 7, 8]) (c278_0))) (.region 0 [.mk4 0 (some 18) (.bin .add (.t 8) (.c (.i 1))) none,
    .mk4 1 (some 8) (.mv (.t 18)) none] [0, 2, 6, 7, 8])
def c278_2 : AC :=
  .seq (.region 0 [.mk4 0 (some 6) (.load1 (.t 1)) none,
    .mk4 1 (some 7) (.lenL (.t 6)) none,
    .mk4 2 (some 8) (.mv (.c (.i 0))) none] [0, 2, 6, 7, 8]) (.block 0 (.loop [0, 2, 6, 7, 8] (.seq (.region 0 [.mk4 0 (some 9) (.bin .lss (.t 8) (.t 7)) none] [0, 2, 6, 7, 8, 9]) (.seq (.cond (.t 9) (.skip) (.exit 0)) (c278_1)))))
def c278 : AFn := ⟨3, 19, [],
  (c278_2)⟩
def c279_0 : AC :=
  .cond (.t 32) (.region 0 [.mk4 0 (some 33) (.mv (.t 6)) none,
    .mk4 1 (some 34) (.faddr 1 (.t 3)) none,
    .mk4 2 (some 35) (.load1 (.t 34)) none,
    .mk4 3 (some 36) (.bin .and (.c (.i 4)) (.t 35)) none,
    .mk4 4 (some 37) (.bin .or (.t 33) (.t 36)) none,
    .mk4 5 (some 6) (.mv (.t 37)) none] [5, 6]) (.skip)
def c279_1 : AC :=
  .cond (.t 25) (.region 0 [.mk4 0 (some 26) (.mv (.t 6)) none,
    .mk4 1 (some 27) (.faddr 1 (.t 3)) none,
    .mk4 2 (some 28) (.load1 (.t 27)) none,
    .mk4 3 (some 29) (.bin .and (.c (.i 1)) (.t 28)) none,
    .mk4 4 (some 30) (.bin .or (.t 26) (.t 29)) none,
    .mk4 5 (some 6) (.mv (.t 30)) none] [3, 5, 6]) (.skip)
def c279_2 : AC :=
  .seq (.seq (.region 0 [.mk4 0 (some 31) (.faddr 2 (.t 5)) none,
    .mk4 1 (some 32) (.load1 (.t 31)) none] [3, 5, 6, 32]) (c279_0)) (.seq (.region 0 [.mk4 0 (some 38) (.faddr 4 (.t 5)) none,
    .mk4 1 (some 39) (.load1 (.t 38)) none] [6, 39]) (.cond (.t 39) (.region 0 [.mk4 0 (some 40) (.mv (.t 6)) none,
    .mk4 1 (some 41) (.bin .or (.t 40) (.c (.i 8))) none,
    .mk4 2 (some 6) (.mv (.t 41)) none] [6]) (.skip)))
def c279_3 : AC :=
  .seq (.seq (.region 0 [.mk4 0 (some 16) (.faddr 0 (.t 5)) none,
    .mk4 1 (some 17) (.load1 (.t 16)) none,
    .mk4 2 (some 18) (.un .not (.t 17)) none,
    .mk4 3 (some 15) (.mv (.t 18)) none] [3, 5, 6, 15]) (.cond (.t 15) (.exit 2) (.skip))) (.seq (.region 0 [.mk4 0 (some 20) (.faddr 3 (.t 5)) none,
    .mk4 1 (some 21) (.load1 (.t 20)) none,
    .mk4 2 (some 19) (.mv (.t 21)) none] [3, 5, 6, 19]) (.cond (.t 19) (.exit 3) (.skip)))
def c279_4 : AC :=
  .seq (.block 1 (.seq (.seq (.seq (.region 0 [.mk4 0 (some 12) (.faddr 0 (.t 3)) none,
    .mk4 1 (some 13) (.load1 (.t 12)) none,
    .mk4 2 (some 14) (.bin .lss (.t 13) (.c (.i 0))) none,
    .mk4 3 (some 11) (.mv (.t 14)) none] [3, 5, 6, 11]) (.cond (.t 11) (.exit 1) (.skip))) (c279_3)) (.exit 4))) (.seq (.seq (.region 0 [.mk4 0 (some 4) (.mv (.c (.i 0))) none] [4]) (.ret)) (.exit 0))
def c279_5 : AC :=
  .seq (.block 4 (.seq (.block 3 (.seq (.block 2 (c279_4)) (.seq (.seq (.region 0 [.mk4 0 (some 4) (.mv (.c (.i 32))) none] [4]) (.ret)) (.exit 0)))) (.region 0 [.mk4 0 (some 22) (.mv (.t 6)) none,
    .mk4 1 (some 23) (.bin .or (.t 22) (.c (.i 16))) none,
    .mk4 2 (some 6) (.mv (.t 23)) none] [3, 5, 6]))) (.seq (.seq (.seq (.region 0 [.mk4 0 (some 24) (.faddr 1 (.t 5)) none,
    .mk4 1 (some 25) (.load1 (.t 24)) none] [3, 5, 6, 25]) (c279_1)) (c279_2)) (.exit 0))
def c279_6 : AC :=
  .seq (.region 0 [.mk4 0 (some 7) (.mv (.t 0)) none,
    .mk4 1 (some 8) (.faddr 0 (.t 3)) none,
    .mk4 2 (some 9) (.load1 (.t 8)) none,
    .mk4 3 (some 10) (.call 99 [(.t 7), (.t 9)]) none,
    .mk4 4 (some 5) (.alloc 7 [.bool false, .bool false, .bool false, .bool false, .bool false, .int .u64 0, .int .u64 0]) none,
    .mk4 5 none (.store 7 (.t 5) (.t 10)) none] [3, 5]) (.seq (.region 0 [.mk4 0 (some 6) (.mv (.c (.i 0))) none] [3, 5, 6]) (.seq (.block 0 (c279_5)) (.seq (.region 0 [.mk4 0 (some 42) (.mv (.t 6)) none,
    .mk4 1 (some 4) (.mv (.t 42)) none] [4]) (.ret))))
def c279 : AFn := ⟨2, 43, [.tmp 4],
  (.seq (.region 0 [.mk4 0 (some 3) (.box 2 (.t 1)) none,
    .mk4 1 (some 4) (.mv (.c (.i 0))) none] [0, 3]) (c279_6))⟩
def prog : Prog := { fns := [(104, c104), (268, c268), (64, c64), (25, c25), (56, c56), (22, c22), (60, c60), (69, c69), (99, c99), (107, c107), (105, c105), (8, c8), (265, c265), (269, c269), (157, c157), (188, c188), (191, c191), (13, c13), (23, c23), (29, c29), (33, c33), (259, c259), (260, c260), (6, c6), (9, c9), (12, c12), (17, c17), (158, c158), (193, c193), (204, c204), (11, c11), (16, c16), (18, c18), (19, c19), (21, c21), (24, c24), (26, c26), (27, c27), (28, c28), (30, c30), (34, c34), (36, c36), (38, c38), (81, c81), (82, c82), (84, c84), (86, c86), (90, c90), (91, c91), (92, c92), (94, c94), (97, c97), (100, c100), (108, c108), (147, c147), (151, c151), (152, c152), (263, c263), (266, c266), (267, c267), (31, c31), (124, c124), (150, c150), (169, c169), (176, c176), (178, c178), (182, c182), (183, c183), (184, c184), (189, c189), (190, c190), (192, c192), (194, c194), (217, c217), (229, c229), (20, c20), (35, c35), (37, c37), (76, c76), (79, c79), (83, c83), (85, c85), (88, c88), (89, c89), (93, c93), (114, c114), (141, c141), (144, c144), (146, c146), (148, c148), (149, c149), (153, c153), (154, c154), (156, c156), (159, c159), (160, c160), (161, c161), (170, c170), (175, c175), (177, c177), (185, c185), (203, c203), (218, c218), (222, c222), (223, c223), (224, c224), (228, c228), (230, c230), (238, c238), (239, c239), (240, c240), (257, c257), (258, c258), (261, c261), (262, c262), (264, c264), (276, c276), (277, c277), (278, c278), (279, c279), (4, c4), (5, c5), (10, c10), (14, c14), (15, c15), (32, c32), (164, c164), (165, c165), (167, c167), (168, c168), (171, c171), (172, c172), (173, c173), (174, c174), (179, c179), (180, c180), (181, c181), (186, c186), (187, c187), (212, c212), (213, c213), (215, c215), (216, c216), (219, c219), (220, c220), (221, c221), (225, c225), (226, c226), (227, c227), (235, c235), (236, c236), (237, c237), (254, c254), (255, c255), (256, c256), (271, c271), (272, c272), (273, c273), (274, c274), (275, c275), (54, c54), (55, c55), (57, c57), (58, c58), (59, c59), (61, c61), (62, c62), (63, c63), (65, c65), (66, c66), (67, c67), (68, c68), (70, c70), (71, c71), (72, c72), (73, c73), (75, c75), (77, c77), (78, c78), (80, c80), (87, c87), (95, c95), (96, c96), (98, c98), (101, c101), (102, c102), (103, c103), (106, c106), (109, c109), (110, c110), (111, c111), (112, c112), (113, c113), (115, c115), (116, c116), (117, c117), (118, c118), (119, c119), (120, c120), (121, c121), (122, c122), (123, c123), (125, c125), (126, c126), (127, c127), (128, c128), (129, c129), (130, c130), (131, c131), (132, c132), (133, c133), (134, c134), (135, c135), (143, c143), (145, c145), (155, c155), (166, c166), (195, c195), (196, c196), (197, c197), (198, c198), (199, c199), (200, c200), (201, c201), (202, c202), (205, c205), (206, c206), (207, c207), (208, c208), (209, c209), (210, c210), (211, c211), (214, c214), (231, c231), (232, c232), (233, c233), (234, c234), (241, c241), (242, c242), (243, c243), (244, c244), (245, c245), (246, c246), (247, c247), (248, c248), (249, c249), (250, c250), (251, c251), (270, c270)], prims := [(139, pIndexByte)] }
theorem primsF : PrimsF prog := PrimsF.of (List.forall_mem_cons.2 ⟨Am.pIndexByte_F, fun _ h => nomatch h⟩)
def cx : Cx := ⟨[(3, ⟨.int .i64, 1, 8, (some (.i 0)), false⟩),
  (4, ⟨.bool, 1, 1, (some (.bool false)), false⟩),
  (5, ⟨.int .u8, 1, 1, (some (.int .u8 0)), false⟩),
  (9, ⟨.str, 1, 16, (some (.str [])), false⟩),
  (22, ⟨.func, 1, 8, (some (.nilfn)), false⟩),
  (23, ⟨.ptr 51, 1, 8, (some (.ptr none)), false⟩),
  (25, ⟨.int .i64, 1, 8, (some (.i 0)), false⟩),
  (28, ⟨.ptr 66, 1, 8, (some (.ptr none)), false⟩),
  (35, ⟨.slice 43, 1, 24, (some (.nils)), false⟩),
  (36, ⟨.slice 149, 1, 24, (some (.nils)), false⟩),
  (39, ⟨.int .u64, 1, 8, (some (.int .u64 0)), false⟩),
  (43, ⟨.struct [(0, 3), (1, 3)], 2, 16, (some (.agg [.i 0, .i 0])), true⟩),
  (44, ⟨.ptr 79, 1, 8, (some (.ptr none)), false⟩),
  (47, ⟨.struct [(0, 4), (1, 3), (2, 3)], 3, 24, (some (.agg [.bool false, .i 0, .i 0])), false⟩),
  (48, ⟨.array 96 47, 288, 2304, (some (.agg ((List.replicate 96 ([.bool false, .i 0, .i 0] : List V)).flatten))), false⟩),
  (49, ⟨.slice 55, 1, 24, (some (.nils)), false⟩),
  (51, ⟨.struct [(0, 48), (288, 49), (289, 44), (290, 39), (291, 47)], 294, 2368, (some (.agg ((List.replicate 96 ([.bool false, .i 0, .i 0] : List V)).flatten ++ [.nils, .ptr none, .int .u64 0, .bool false, .i 0, .i 0]))), false⟩),
  (52, ⟨.slice 3, 1, 24, (some (.nils)), false⟩),
  (55, ⟨.ptr 75, 1, 8, (some (.ptr none)), false⟩),
  (58, ⟨.iface, 1, 16, (some (.nili)), false⟩),
  (59, ⟨.ptr 88, 1, 8, (some (.ptr none)), false⟩),
  (62, ⟨.ptr 94, 1, 8, (some (.ptr none)), false⟩),
  (66, ⟨.struct [(0, 58), (1, 3)], 2, 24, (some (.agg [.nili, .i 0])), false⟩),
  (69, ⟨.ptr 176, 1, 8, (some (.ptr none)), false⟩),
  (70, ⟨.ptr 114, 1, 8, (some (.ptr none)), false⟩),
  (72, ⟨.struct [(0, 3), (1, 3), (2, 70), (3, 4), (4, 4), (5, 39), (6, 39)], 7, 48, (some (.agg [.i 0, .i 0, .ptr none, .bool false, .bool false, .int .u64 0, .int .u64 0])), false⟩),
  (73, ⟨.array 2 72, 14, 96, (some (.agg [.i 0, .i 0, .ptr none, .bool false, .bool false, .int .u64 0, .int .u64 0, .i 0, .i 0, .ptr none, .bool false, .bool false, .int .u64 0, .int .u64 0])), false⟩),
  (75, ⟨.struct [(0, 73), (14, 4), (15, 3), (16, 52)], 17, 136, (some (.agg [.i 0, .i 0, .ptr none, .bool false, .bool false, .int .u64 0, .int .u64 0, .i 0, .i 0, .ptr none, .bool false, .bool false, .int .u64 0, .int .u64 0, .bool false, .i 0, .nils])), false⟩),
  (76, ⟨.array 32 4, 32, 32, (some (.agg (List.replicate 32 (.bool false : V)))), false⟩),
  (77, ⟨.array 32 3, 32, 256, (some (.agg (List.replicate 32 (.i 0 : V)))), false⟩),
  (79, ⟨.struct [(0, 76), (32, 77)], 64, 288, (some (.agg (List.replicate 32 (.bool false : V) ++ List.replicate 32 (.i 0 : V)))), false⟩),
  (86, ⟨.array 96 3, 96, 768, (some (.agg (List.replicate 96 (.i 0 : V)))), false⟩),
  (88, ⟨.struct [(0, 23), (1, 3), (2, 86), (98, 3)], 99, 792, (some (.agg ([.ptr none] ++ List.replicate 98 (.i 0 : V)))), false⟩),
  (89, ⟨.ptr 116, 1, 8, (some (.ptr none)), false⟩),
  (92, ⟨.iface, 1, 16, (some (.nili)), false⟩),
  (94, ⟨.struct [(0, 23), (1, 92), (2, 89), (3, 3), (4, 3), (5, 3)], 6, 56, (some (.agg [.ptr none, .nili, .ptr none, .i 0, .i 0, .i 0])), false⟩),
  (95, ⟨.ptr 119, 1, 8, (some (.ptr none)), false⟩),
  (98, ⟨.ptr 100, 1, 8, (some (.ptr none)), false⟩),
  (100, ⟨.struct [(0, 95), (1, 3), (2, 89)], 3, 24, (some (.agg [.ptr none, .i 0, .ptr none])), false⟩),
  (101, ⟨.ptr 122, 1, 8, (some (.ptr none)), false⟩),
  (104, ⟨.ptr 106, 1, 8, (some (.ptr none)), false⟩),
  (106, ⟨.struct [(0, 101)], 1, 8, (some (.agg [.ptr none])), false⟩),
  (107, ⟨.array 4 3, 4, 32, (some (.agg [.i 0, .i 0, .i 0, .i 0])), false⟩),
  (112, ⟨.slice 5, 1, 24, (some (.nils)), false⟩),
  (114, ⟨.struct [(0, 112), (1, 3), (2, 3), (3, 39), (4, 39), (5, 4)], 6, 64, (some (.agg [.nils, .i 0, .i 0, .int .u64 0, .int .u64 0, .bool false])), false⟩),
  (116, ⟨.struct [(0, 86), (96, 86), (192, 4)], 193, 1544, (some (.agg (List.replicate 192 (.i 0 : V) ++ [.bool false]))), false⟩),
  (117, ⟨.map 3 257, 1, 8, (some (.map none)), false⟩),
  (119, ⟨.struct [(0, 23), (1, 3), (2, 117)], 3, 24, (some (.agg [.ptr none, .i 0, .map none])), false⟩),
  (120, ⟨.map 306 313, 1, 8, (some (.map none)), false⟩),
  (122, ⟨.struct [(0, 23), (1, 120)], 2, 16, (some (.agg [.ptr none, .map none])), false⟩),
  (123, ⟨.array 6 9, 6, 96, (some (.agg [.str [], .str [], .str [], .str [], .str [], .str []])), false⟩),
  (124, ⟨.array 3 123, 18, 288, (some (.agg (List.replicate 18 (.str [] : V)))), false⟩),
  (132, ⟨.int .u32, 1, 4, (some (.int .u32 0)), false⟩),
  (149, ⟨.struct [(0, 3), (1, 3)], 2, 16, (some (.agg [.i 0, .i 0])), false⟩),
  (161, ⟨.iface, 1, 16, (some (.nili)), false⟩),
  (165, ⟨.map 3 3, 1, 8, (some (.map none)), false⟩),
  (172, ⟨.slice 189, 1, 24, (some (.nils)), false⟩),
  (176, ⟨.struct [(0, 172), (1, 52)], 2, 48, (some (.agg [.nils, .nils])), false⟩),
  (178, ⟨.array 2 132, 2, 8, (some (.agg [.int .u32 0, .int .u32 0])), false⟩),
  (180, ⟨.struct [(0, 178), (2, 178)], 4, 16, (some (.agg [.int .u32 0, .int .u32 0, .int .u32 0, .int .u32 0])), false⟩),
  (181, ⟨.slice 186, 1, 24, (some (.nils)), false⟩),
  (182, ⟨.slice 186, 1, 24, (some (.nils)), false⟩),
  (186, ⟨.struct [(0, 3), (1, 3)], 2, 16, (some (.agg [.i 0, .i 0])), false⟩),
  (187, ⟨.slice 201, 1, 24, (some (.nils)), false⟩),
  (189, ⟨.struct [(0, 39), (1, 4), (2, 52), (3, 187)], 4, 64, (some (.agg [.int .u64 0, .bool false, .nils, .nils])), false⟩),
  (193, ⟨.struct [(0, 4), (1, 4), (2, 4), (3, 4), (4, 4), (5, 39), (6, 39)], 7, 24, (some (.agg [.bool false, .bool false, .bool false, .bool false, .bool false, .int .u64 0, .int .u64 0])), false⟩),
  (201, ⟨.struct [(0, 3), (1, 3), (2, 3), (3, 112)], 4, 48, (some (.agg [.i 0, .i 0, .i 0, .nils])), false⟩),
  (224, ⟨.int .u64, 1, 8, (some (.int .u64 0)), false⟩),
  (232, ⟨.slice 235, 1, 24, (some (.nils)), false⟩),
  (235, ⟨.struct [(0, 3), (1, 3), (2, 3)], 3, 24, (some (.agg [.i 0, .i 0, .i 0])), false⟩),
  (249, ⟨.slice 252, 1, 24, (some (.nils)), false⟩),
  (252, ⟨.struct [(0, 3), (1, 3)], 2, 16, (some (.agg [.i 0, .i 0])), false⟩),
  (257, ⟨.struct [(0, 3), (1, 3), (2, 3), (3, 39), (4, 39)], 5, 40, (some (.agg [.i 0, .i 0, .i 0, .int .u64 0, .int .u64 0])), false⟩),
  (263, ⟨.array 2 3, 2, 16, (some (.agg [.i 0, .i 0])), false⟩),
  (264, ⟨.array 3 263, 6, 48, (some (.agg [.i 0, .i 0, .i 0, .i 0, .i 0, .i 0])), false⟩),
  (275, ⟨.int .i64, 1, 8, (some (.i 0)), false⟩),
  (284, ⟨.int .u64, 1, 8, (some (.int .u64 0)), false⟩),
  (295, ⟨.slice 299, 1, 24, (some (.nils)), false⟩),
  (299, ⟨.struct [(0, 3), (1, 3), (2, 3), (3, 3)], 4, 32, (some (.agg [.i 0, .i 0, .i 0, .i 0])), false⟩),
  (303, ⟨.slice 306, 1, 24, (some (.nils)), false⟩),
  (306, ⟨.struct [(0, 3), (1, 3)], 2, 16, (some (.agg [.i 0, .i 0])), true⟩),
  (313, ⟨.struct [(0, 3), (1, 3), (2, 4), (3, 39)], 4, 32, (some (.agg [.i 0, .i 0, .bool false, .int .u64 0])), false⟩),
  (315, ⟨.array 2 263, 4, 32, (some (.agg [.i 0, .i 0, .i 0, .i 0])), false⟩)], [0, 1]⟩
def lit_roundhouse_flag_has : List V := [.i 0, .i 2, .i 11, .i 15]
def lit_roundhouse_flag_words : List V := [.str [116, 105, 109, 101, 111, 117, 116], .str [114, 101, 97, 100], .str [119, 114, 105, 116, 101], .str [115, 105, 103, 110, 97, 108], .str [112, 101, 114, 115, 105, 115, 116], .str [101, 100, 103, 101], .str [101, 100, 103, 101], .str [98, 105, 103], .str [115, 105, 103, 110, 97, 108, 115], .str [99, 104, 97, 110, 103, 101, 115], .str [], .str [], .str [115, 101, 108, 101, 99, 116], .str [112, 111, 108, 108], .str [101, 112, 111, 108, 108], .str [107, 113, 117, 101, 117, 101], .str [], .str []]
namespace F
abbrev fdset_fits : Nat := 104
abbrev fdset_Set_Has : Nat := 268
abbrev ring_Ring_none : Nat := 64
abbrev world_World_none : Nat := 25
abbrev world_World_find : Nat := 56
abbrev driver_Driver_none : Nat := 22
abbrev ring_Ring_Len : Nat := 60
abbrev ring_Ring_Room : Nat := 69
abbrev world_World_Ready : Nat := 99
abbrev world_wire_silent : Nat := 107
abbrev world_World_Wire : Nat := 105
abbrev driver_New : Nat := 8
abbrev fdset_Set_all : Nat := 265
abbrev fdset_Set_all_1 : Nat := 269
abbrev change_List_none : Nat := 157
abbrev slices_Collect_int : Nat := 188
abbrev slices_AppendSeq_int_int : Nat := 191
abbrev driver_Driver_Kind : Nat := 13
abbrev flag_Features : Nat := 23
abbrev ring_New : Nat := 29
abbrev flag_known : Nat := 33
abbrev fdset_Set_All : Nat := 259
abbrev fdset_Set_Or : Nat := 260
abbrev world_New : Nat := 6
abbrev driver_Driver_Set : Nat := 9
abbrev driver_Driver_Dispatch : Nat := 12
abbrev sigs_New : Nat := 17
abbrev change_in : Nat := 158
abbrev math_bits_Len : Nat := 193
abbrev math_bits_Len64 : Nat := 204
abbrev driver_Choose : Nat := 11
abbrev world_World_Outer : Nat := 16
abbrev world_World_make : Nat := 18
abbrev world_both : Nat := 19
abbrev dqueue_New : Nat := 21
abbrev flag_Choose : Nat := 24
abbrev world_capacity : Nat := 26
abbrev world_World_numbers : Nat := 27
abbrev world_World_open : Nat := 28
abbrev change_New : Nat := 30
abbrev flag_many : Nat := 34
abbrev world_World_free : Nat := 36
abbrev world_World_free_1 : Nat := 38
abbrev dpoll_Driver_none : Nat := 81
abbrev moves_New : Nat := 82
abbrev moves_Script_Sleep : Nat := 84
abbrev dpoll_Driver_asked : Nat := 86
abbrev moves_all : Nat := 90
abbrev moves_twins : Nat := 91
abbrev fdset_Set_With : Nat := 92
abbrev moves_none : Nat := 94
abbrev dpoll_Driver_asked_1 : Nat := 97
abbrev slices_ContainsFunc_api_Step_api_Step : Nat := 100
abbrev slices_IndexFunc_api_Step_api_Step : Nat := 108
abbrev dqueue_Driver_none : Nat := 147
abbrev dqueue_Driver_open : Nat := 151
abbrev change_May : Nat := 152
abbrev sel_asked : Nat := 263
abbrev sel_asked_1 : Nat := 266
abbrev fdset_Set_Below : Nat := 267
abbrev epl_New : Nat := 31
abbrev slices_IndexFunc_int_int : Nat := 124
abbrev change_List_Wants : Nat := 150
abbrev epl_Epoll_none : Nat := 169
abbrev epl_Epoll_all : Nat := 176
abbrev epl_Epoll_find : Nat := 178
abbrev slices_DeleteFunc_int_int : Nat := 182
abbrev slices_Sorted_int : Nat := 183
abbrev maps_Keys_map_int_epl_interest_int_epl_interest : Nat := 184
abbrev slices_Sort_int_int : Nat := 189
abbrev maps_Keys_map_int_epl_interest_int_epl_interest_1 : Nat := 190
abbrev slices_pdqsortOrdered_int : Nat := 192
abbrev slices_insertionSortOrdered_int : Nat := 194
abbrev kqu_Kqueue_none : Nat := 217
abbrev kqu_Kqueue_find : Nat := 229
abbrev dpoll_New : Nat := 20
abbrev slices_Contains_int_int : Nat := 35
abbrev slices_Index_int_int : Nat := 37
abbrev dpoll_Driver_Dispatch : Nat := 76
abbrev dpoll_Driver_Set : Nat := 79
abbrev dpoll_Driver_kernel : Nat := 83
abbrev dpoll_Driver_Dispatch_1 : Nat := 85
abbrev dpoll_Driver_may : Nat := 88
abbrev dpoll_known : Nat := 89
abbrev pol_Wants : Nat := 93
abbrev slices_Clone_int_int : Nat := 114
abbrev dqueue_Driver_Dispatch : Nat := 141
abbrev dqueue_Driver_Set : Nat := 144
abbrev dqueue_Driver_say : Nat := 146
abbrev dqueue_Driver_gather : Nat := 148
abbrev moves_Script_Order : Nat := 149
abbrev change_List_Want : Nat := 153
abbrev change_List_Flush : Nat := 154
abbrev dqueue_Driver_gather_1 : Nat := 156
abbrev change_List_Changes : Nat := 159
abbrev change_List_changes : Nat := 160
abbrev change_List_changes_1 : Nat := 161
abbrev epl_Epoll_due : Nat := 170
abbrev epl_Epoll_due_1 : Nat := 175
abbrev epl_interest_now : Nat := 177
abbrev epl_Epoll_all_1 : Nat := 185
abbrev math_bits_Len32 : Nat := 203
abbrev kqu_Kqueue_due : Nat := 218
abbrev kqu_Kqueue_due_1 : Nat := 222
abbrev kqu_Kqueue_keys : Nat := 223
abbrev kqu_Kqueue_told : Nat := 224
abbrev kqu_rises : Nat := 228
abbrev slices_SortFunc_kqu_key_kqu_key : Nat := 230
abbrev slices_pdqsortCmpFunc_kqu_key : Nat := 238
abbrev kqu_may_1 : Nat := 239
abbrev slices_insertionSortCmpFunc_kqu_key : Nat := 240
abbrev sel_Top : Nat := 257
abbrev sel_Select : Nat := 258
abbrev fdset_Set_Top : Nat := 261
abbrev sel_closed : Nat := 262
abbrev sel_is : Nat := 264
abbrev pol_may : Nat := 276
abbrev pol_told : Nat := 277
abbrev pol_told_1 : Nat := 278
abbrev pol_is : Nat := 279
abbrev roundhouselaw21_DriverNames : Nat := 4
abbrev roundhouselaw21_alive : Nat := 5
abbrev driver_Driver_Features : Nat := 10
abbrev driver_Driver_Notice : Nat := 14
abbrev driver_Driver_Wants : Nat := 15
abbrev kqu_New : Nat := 32
abbrev epl_Epoll_Due : Nat := 164
abbrev dqueue_queue_due : Nat := 165
abbrev dqueue_queue_poll : Nat := 167
abbrev dqueue_queue_told : Nat := 168
abbrev epl_Epoll_Ctl : Nat := 171
abbrev epl_Epoll_Poll : Nat := 172
abbrev dqueue_queue_edges : Nat := 173
abbrev change_Epoll : Nat := 174
abbrev epl_interest_risen : Nat := 179
abbrev epl_Shuffle_api_Polled : Nat := 180
abbrev slices_Collect_api_Polled : Nat := 181
abbrev slices_Clone_api_Polled_api_Polled : Nat := 186
abbrev slices_AppendSeq_api_Polled_api_Polled : Nat := 187
abbrev kqu_Kqueue_Due : Nat := 212
abbrev dqueue_notes_due : Nat := 213
abbrev dqueue_notes_poll : Nat := 215
abbrev dqueue_notes_told : Nat := 216
abbrev kqu_Kqueue_Change : Nat := 219
abbrev kqu_Kqueue_Poll : Nat := 220
abbrev change_Kqueue : Nat := 221
abbrev kqu_Kqueue_change : Nat := 225
abbrev epl_Shuffle_api_Note : Nat := 226
abbrev slices_Collect_api_Note : Nat := 227
abbrev kqu_may : Nat := 235
abbrev slices_Clone_api_Note_api_Note : Nat := 236
abbrev slices_AppendSeq_api_Note_api_Note : Nat := 237
abbrev dpoll_sets_holds : Nat := 254
abbrev dpoll_sets_told : Nat := 255
abbrev sel_Holds : Nat := 256
abbrev dpoll_list_holds : Nat := 271
abbrev dpoll_list_told : Nat := 272
abbrev pol_Holds : Nat := 273
abbrev pol_Poll : Nat := 274
abbrev pol_Flags : Nat := 275
abbrev world_World_Notice : Nat := 54
abbrev world_World_noticed : Nat := 55
abbrev sigs_Sigs_Pending : Nat := 57
abbrev world_wire_came : Nat := 58
abbrev ring_Ring_Clear : Nat := 59
abbrev world_wire_put : Nat := 61
abbrev sigs_Sigs_counts : Nat := 62
abbrev ring_Ring_Take : Nat := 63
abbrev ring_Ring_Put : Nat := 65
abbrev sigs_Sigs_counts_1 : Nat := 66
abbrev sigs_Sigs_Count : Nat := 67
abbrev ring_Ring_Look : Nat := 68
abbrev ring_Ring_pieces : Nat := 70
abbrev sigs_Sigs_may : Nat := 71
abbrev ring_Ring_pieces_1 : Nat := 72
abbrev sigs_is : Nat := 73
abbrev world_wire_close : Nat := 75
abbrev dpoll_Driver_Forget : Nat := 77
abbrev dpoll_Driver_Notice : Nat := 78
abbrev dpoll_Driver_Wants : Nat := 80
abbrev world_World_Signals : Nat := 87
abbrev moves_Script_take : Nat := 95
abbrev world_World_Pass : Nat := 96
abbrev sigs_Sigs_Take : Nat := 98
abbrev moves_all_1 : Nat := 101
abbrev moves_Check : Nat := 102
abbrev moves_twin : Nat := 103
abbrev moves_Make : Nat := 106
abbrev moves_Check_1 : Nat := 109
abbrev slices_ContainsFunc_int_int : Nat := 110
abbrev slices_ContainsFunc_api_Move_api_Move : Nat := 111
abbrev moves_Check_2 : Nat := 112
abbrev moves_may : Nat := 113
abbrev slices_Clone_api_Move_api_Move : Nat := 115
abbrev slices_Clone_byte_byte : Nat := 116
abbrev world_World_Put : Nat := 117
abbrev world_World_Take : Nat := 118
abbrev world_World_PeerShut : Nat := 119
abbrev world_World_PeerClose : Nat := 120
abbrev world_World_Reset : Nat := 121
abbrev world_World_Connect : Nat := 122
abbrev world_World_Raise : Nat := 123
abbrev slices_IndexFunc_api_Move_api_Move : Nat := 125
abbrev moves_may_1 : Nat := 126
abbrev strings_Contains : Nat := 127
abbrev moves_names : Nat := 128
abbrev world_World_outer : Nat := 129
abbrev world_wire_take : Nat := 130
abbrev world_wire_shut : Nat := 131
abbrev sigs_Sigs_Raise : Nat := 132
abbrev strings_Index : Nat := 133
abbrev internal_stringslite_Index : Nat := 134
abbrev internal_stringslite_IndexByte : Nat := 135
abbrev dqueue_Driver_Notice : Nat := 143
abbrev dqueue_Driver_Wants : Nat := 145
abbrev change_List_Forget : Nat := 155
abbrev dqueue_queue_notice : Nat := 166
abbrev slices_heapSortOrdered_int : Nat := 195
abbrev slices_breakPatternsOrdered_int : Nat := 196
abbrev slices_choosePivotOrdered_int : Nat := 197
abbrev slices_reverseRangeOrdered_int : Nat := 198
abbrev slices_partialInsertionSortOrdered_int : Nat := 199
abbrev cmp_Less_int : Nat := 200
abbrev slices_partitionEqualOrdered_int : Nat := 201
abbrev slices_partitionOrdered_int : Nat := 202
abbrev slices_siftDownOrdered_int : Nat := 205
abbrev slices_nextPowerOfTwo : Nat := 206
abbrev slices_xorshift_Next : Nat := 207
abbrev slices_medianAdjacentOrdered_int : Nat := 208
abbrev slices_medianOrdered_int : Nat := 209
abbrev cmp_isNaN_int : Nat := 210
abbrev slices_order2Ordered_int : Nat := 211
abbrev dqueue_notes_notice : Nat := 214
abbrev kqu_Kqueue_keys_1 : Nat := 231
abbrev cmp_Or_int : Nat := 232
abbrev cmp_Compare_int : Nat := 233
abbrev world_World_Count : Nat := 234
abbrev slices_heapSortCmpFunc_kqu_key : Nat := 241
abbrev slices_breakPatternsCmpFunc_kqu_key : Nat := 242
abbrev slices_choosePivotCmpFunc_kqu_key : Nat := 243
abbrev slices_reverseRangeCmpFunc_kqu_key : Nat := 244
abbrev slices_partialInsertionSortCmpFunc_kqu_key : Nat := 245
abbrev slices_partitionEqualCmpFunc_kqu_key : Nat := 246
abbrev slices_partitionCmpFunc_kqu_key : Nat := 247
abbrev slices_siftDownCmpFunc_kqu_key : Nat := 248
abbrev slices_medianAdjacentCmpFunc_kqu_key : Nat := 249
abbrev slices_medianCmpFunc_kqu_key : Nat := 250
abbrev slices_order2CmpFunc_kqu_key : Nat := 251
abbrev fdset_Set_Without : Nat := 270
abbrev internal_bytealg_IndexByteString : Nat := 139
end F
end Am.Sigs
